/- That the evaluator says of each function what it computes, and so that the program does. Conditions: none. -/
import Derived.Test.YtiphcamiidggcaaGreatDoorProg
import Derived.KernelRfl
import Derived.Test.YtiphcamiidggcaaGreatDoorXGP0
set_option linter.unusedVariables false
set_option linter.unusedSimpArgs false
section
open Go Go.Proofs
set_option maxRecDepth 100000
namespace Ev
def Zy8:List (Nat×TI):=[
 (2,⟨.int .i64,1,8,[.int .i64 0],some [.int .i64]⟩),
 (3,⟨.int .i64,1,8,[.int .i64 0],some [.int .i64]⟩),
 (4,⟨.bool,1,1,[.bool false],some [.bool]⟩),
 (5,⟨.int .u8,1,1,[.int .u8 0],some [.int .u8]⟩),
 (6,⟨.int .u8,1,1,[.int .u8 0],some [.int .u8]⟩),
 (7,⟨.struct [(0,1,false),(1,1,false),(2,1,false),(3,1,false)],4,24,[.int .i64 0,.int .i64 0,.bool false,.int .u8 0],some [.int .i64,.int .i64,.bool,.int .u8]⟩),
 (8,⟨.struct [(0,1,false),(1,1,false),(2,1,false),(3,1,false)],4,24,[.int .i64 0,.int .i64 0,.bool false,.int .u8 0],some [.int .i64,.int .i64,.bool,.int .u8]⟩),
 (9,⟨.str,1,16,[.str []],some [.str]⟩),
 (10,⟨.str,1,16,[.str []],some [.str]⟩),
 (11,⟨.str,1,16,[.str []],some [.str]⟩),
 (12,⟨.int .u64,1,8,[.int .u64 0],some [.int .u64]⟩),
 (13,⟨.struct [(0,1,false),(1,1,false)],2,24,[.str [],.int .u64 0],some [.str,.int .u64]⟩),
 (14,⟨.struct [(0,1,false),(1,1,false)],2,24,[.str [],.int .u64 0],some [.str,.int .u64]⟩),
 (15,⟨.ptr 267,1,8,[.nilp],none⟩),
 (16,⟨.ptr 270,1,8,[.nilp],none⟩),
 (17,⟨.ptr 277,1,8,[.nilp],none⟩),
 (18,⟨.struct [(0,1,false)],1,8,[.nilp],none⟩),
 (19,⟨.struct [(0,1,false)],1,8,[.nilp],none⟩),
 (21,⟨.int .i32,1,4,[.int .i32 0],some [.int .i32]⟩),
 (22,⟨.slice 77,1,24,[.nilsl],none⟩),
 (24,⟨.slice 61,1,24,[.nilsl],none⟩),
 (31,⟨.slice 5,1,24,[.nilsl],some [.ints .u8]⟩),
 (36,⟨.slice 43,1,24,[.nilsl],none⟩),
 (40,⟨.struct [(0,1,false),(1,1,false),(2,1,false),(3,1,false),(4,1,false),(5,1,false)],6,48,[.int .i64 0,.int .i64 0,.int .i64 0,.int .i64 0,.int .i64 0,.int .i64 0],some [.int .i64,.int .i64,.int .i64,.int .i64,.int .i64,.int .i64]⟩),
 (41,⟨.struct [(0,1,false),(1,1,false),(2,1,false),(3,1,false),(4,1,false),(5,1,false)],6,48,[.int .i64 0,.int .i64 0,.int .i64 0,.int .i64 0,.int .i64 0,.int .i64 0],some [.int .i64,.int .i64,.int .i64,.int .i64,.int .i64,.int .i64]⟩),
 (42,⟨.struct [(0,1,false),(1,6,true),(7,1,false)],8,80,[.str [],.int .i64 0,.int .i64 0,.int .i64 0,.int .i64 0,.int .i64 0,.int .i64 0,.str []],some [.str,.int .i64,.int .i64,.int .i64,.int .i64,.int .i64,.int .i64,.str]⟩),
 (43,⟨.struct [(0,1,false),(1,6,true),(7,1,false)],8,80,[.str [],.int .i64 0,.int .i64 0,.int .i64 0,.int .i64 0,.int .i64 0,.int .i64 0,.str []],some [.str,.int .i64,.int .i64,.int .i64,.int .i64,.int .i64,.int .i64,.str]⟩),
 (52,⟨.slice 9,1,24,[.nilsl],none⟩),
 (60,⟨.struct [(0,1,false),(1,1,false)],2,32,[.str [],.str []],some [.str,.str]⟩),
 (61,⟨.struct [(0,1,false),(1,1,false)],2,32,[.str [],.str []],some [.str,.str]⟩),
 (67,⟨.struct [(0,1,false),(1,1,false)],2,32,[.str [],.str []],some [.str,.str]⟩),
 (68,⟨.struct [(0,1,false),(1,1,false)],2,32,[.str [],.str []],some [.str,.str]⟩),
 (77,⟨.struct [(0,1,false),(1,1,false)],2,32,[.str [],.str []],some [.str,.str]⟩),
 (87,⟨.ptr 130,1,8,[.nilp],none⟩),
 (117,⟨.slice 3,1,24,[.nilsl],some [.ints .i64]⟩),
 (128,⟨.int .u64,1,8,[.int .u64 0],some [.int .u64]⟩),
 (129,⟨.struct [(0,1,false),(1,1,false)],2,32,[.nilsl,.int .i64 0],some [.ints .u8,.int .i64]⟩),
 (130,⟨.struct [(0,1,false),(1,1,false)],2,32,[.nilsl,.int .i64 0],some [.ints .u8,.int .i64]⟩),
 (139,⟨.ptr 141,1,8,[.nilp],none⟩),
 (140,⟨.struct [(0,1,false),(1,1,false)],2,32,[.nilp,.nilsl],none⟩),
 (141,⟨.struct [(0,1,false),(1,1,false)],2,32,[.nilp,.nilsl],none⟩),
 (156,⟨.int .i64,1,8,[.int .i64 0],some [.int .i64]⟩),
 (163,⟨.int .u32,1,4,[.int .u32 0],some [.int .u32]⟩),
 (165,⟨.int .u64,1,8,[.int .u64 0],some [.int .u64]⟩),
 (169,⟨.ptr 171,1,8,[.nilp],none⟩),
 (170,⟨.struct [(0,1,false),(1,1,false),(2,1,false)],3,32,[.str [],.int .i64 0,.bool false],some [.str,.int .i64,.bool]⟩),
 (171,⟨.struct [(0,1,false),(1,1,false),(2,1,false)],3,32,[.str [],.int .i64 0,.bool false],some [.str,.int .i64,.bool]⟩),
 (177,⟨.ptr 5,1,8,[.nilp],none⟩),
 (182,⟨.int .u64,1,8,[.int .u64 0],some [.int .u64]⟩),
 (186,⟨.ptr 3,1,8,[.nilp],none⟩),
 (189,⟨.map 223 3,1,8,[.undef],none⟩),
 (190,⟨.map 223 3,1,8,[.undef],none⟩),
 (193,⟨.struct [(0,1,false),(1,1,false)],2,48,[.nilsl,.nilsl],some [.ints .i64,.ints .i64]⟩),
 (194,⟨.struct [(0,1,false),(1,1,false)],2,48,[.nilsl,.nilsl],some [.ints .i64,.ints .i64]⟩),
 (196,⟨.struct [(0,1,false),(1,1,false),(2,1,false)],3,24,[.int .i64 0,.int .i64 0,.int .i64 0],some [.int .i64,.int .i64,.int .i64]⟩),
 (197,⟨.struct [(0,1,false),(1,1,false),(2,1,false)],3,24,[.int .i64 0,.int .i64 0,.int .i64 0],some [.int .i64,.int .i64,.int .i64]⟩),
 (200,⟨.ptr 202,1,8,[.nilp],none⟩),
 (201,⟨.struct [(0,1,false),(1,1,false)],2,32,[.nilsl,.int .i64 0],some [.ints .u8,.int .i64]⟩),
 (202,⟨.struct [(0,1,false),(1,1,false)],2,32,[.nilsl,.int .i64 0],some [.ints .u8,.int .i64]⟩),
 (205,⟨.slice 197,1,24,[.nilsl],none⟩),
 (219,⟨.ptr 182,1,8,[.nilp],none⟩),
 (222,⟨.struct [(0,1,false),(1,1,false)],2,16,[.int .i64 0,.int .i64 0],some [.int .i64,.int .i64]⟩),
 (223,⟨.struct [(0,1,false),(1,1,false)],2,16,[.int .i64 0,.int .i64 0],some [.int .i64,.int .i64]⟩),
 (232,⟨.ptr 234,1,8,[.nilp],none⟩),
 (233,⟨.struct [(0,1,false),(1,1,false),(2,1,false)],3,32,[.str [],.int .i64 0,.bool false],some [.str,.int .i64,.bool]⟩),
 (234,⟨.struct [(0,1,false),(1,1,false),(2,1,false)],3,32,[.str [],.int .i64 0,.bool false],some [.str,.int .i64,.bool]⟩),
 (237,⟨.ptr 239,1,8,[.nilp],none⟩),
 (238,⟨.struct [(0,1,false),(1,1,false),(2,1,false)],3,40,[.nilsl,.int .i64 0,.int .i64 0],some [.ints .u8,.int .i64,.int .i64]⟩),
 (239,⟨.struct [(0,1,false),(1,1,false),(2,1,false)],3,40,[.nilsl,.int .i64 0,.int .i64 0],some [.ints .u8,.int .i64,.int .i64]⟩),
 (243,⟨.slice 245,1,24,[.nilsl],none⟩),
 (244,⟨.struct [(0,1,false),(1,1,false)],2,32,[.int .i64 0,.nilsl],some [.int .i64,.ints .i64]⟩),
 (245,⟨.struct [(0,1,false),(1,1,false)],2,32,[.int .i64 0,.nilsl],some [.int .i64,.ints .i64]⟩),
 (251,⟨.struct [(0,1,false),(1,1,false)],2,2,[.int .u8 0,.int .u8 0],some [.int .u8,.int .u8]⟩),
 (252,⟨.struct [(0,1,false),(1,1,false)],2,2,[.int .u8 0,.int .u8 0],some [.int .u8,.int .u8]⟩),
 (261,⟨.slice 263,1,24,[.nilsl],none⟩),
 (262,⟨.struct [(0,1,false),(1,1,false),(2,1,false)],3,40,[.int .i64 0,.int .i64 0,.nilsl],some [.int .i64,.int .i64,.ints .i64]⟩),
 (263,⟨.struct [(0,1,false),(1,1,false),(2,1,false)],3,40,[.int .i64 0,.int .i64 0,.nilsl],some [.int .i64,.int .i64,.ints .i64]⟩),
 (266,⟨.struct [(0,1,false),(1,1,false),(2,1,false),(3,1,false)],4,40,[.nilp,.nilp,.nilp,.str []],none⟩),
 (267,⟨.struct [(0,1,false),(1,1,false),(2,1,false),(3,1,false)],4,40,[.nilp,.nilp,.nilp,.str []],none⟩),
 (271,⟨.int .u8,1,1,[.int .u8 0],some [.int .u8]⟩),
 (272,⟨.int .u8,1,1,[.int .u8 0],some [.int .u8]⟩),
 (274,⟨.int .i32,1,4,[.int .i32 0],some [.int .i32]⟩),
 (275,⟨.int .i32,1,4,[.int .i32 0],some [.int .i32]⟩),
 (276,⟨.struct [(0,1,false),(1,1,false),(2,1,false),(3,1,false),(4,1,false),(5,1,false),(6,1,false),(7,1,false),(8,1,false),(9,1,false),(10,1,false)],11,48,[.int .u64 0,.int .u64 0,.int .u32 0,.int .u8 0,.int .u8 0,.int .u8 0,.int .u8 0,.undef,.nilp,.int .i32 0,.int .i32 0],none⟩),
 (277,⟨.struct [(0,1,false),(1,1,false),(2,1,false),(3,1,false),(4,1,false),(5,1,false),(6,1,false),(7,1,false),(8,1,false),(9,1,false),(10,1,false)],11,48,[.int .u64 0,.int .u64 0,.int .u32 0,.int .u8 0,.int .u8 0,.int .u8 0,.int .u8 0,.undef,.nilp,.int .i32 0,.int .i32 0],none⟩)]
theorem ZxH:tisC Tryz.prog Zy8=true:=by kernel_rfl
theorem nm:Tryz.prog.follows .mixedOrders=true:=by kernel_rfl
def eqTab:List (Nat×FT):=[(43,[.str,.int .i64,.int .i64,.int .i64,.int .i64,.int .i64,.int .i64,.str]),(61,[.str,.str]),(223,[.int .i64,.int .i64])]
theorem Zyw:eqsC Tryz.prog eqTab=true:=by kernel_rfl
theorem ZuW:Zwc Tryz.prog Zy8=true:=by kernel_rfl
def ZrM:List (Nat×List AV):=[(0,[.ro [.int .i64] [16,17,18,0,8,7,9,6,10,5,11,4,12,3,13,2,14,1,15]])]
def C0:Ctx:=⟨Zvy Zy8,ZrN ZrM,eqOf eqTab⟩
theorem Za5:Zhx Tryz.prog C0:=Zy9 rfl ZxH nm rfl Zyw ZuW
def Zy0:Go.Shelf.Ren:=⟨fun | 45=>85 | n=>n,fun | 22=>36 | 23=>43 | 0=>0 | 3=>3 | 4=>4 | n=>n,fun n=>n⟩
theorem ZzA:Go.Proofs.SlLaysE0.n45 Tryz.prog Zy0:={
 mixed:=nm
 f45:=⟨Tryz.f85.name,by kernel_rfl,Tryz.func85.trans (congrArg some (by kernel_rfl))⟩
 t0:=Tryz.underlying0
 a0:=Tryz.isAgg0
 z0:=Tryz.sizeOf0
 v0:=Tryz.zeroValue0
 t3:=Tryz.underlying3
 a3:=Tryz.isAgg3
 z3:=Tryz.sizeOf3
 v3:=Tryz.zeroValue3
 t4:=Tryz.underlying4
 a4:=Tryz.isAgg4
 z4:=Tryz.sizeOf4
 v4:=Tryz.zeroValue4
 t22:=Tryz.underlying36
 a22:=Tryz.isAgg36
 z22:=Tryz.sizeOf36
 v22:=Tryz.zeroValue36 }
end Ev
end
section
open Go Go.Proofs
set_option maxRecDepth 100000
namespace Ev
set_option maxHeartbeats 1000000
def ZbA.S:ZaI:=⟨0,[.sc (.int .i64),.sc (.int .i64),.sc (.int .i64)],[],[.int .i64,.int .i64,.int .i64],⟨[.bool],.sc .bool,[]⟩,
 fun ((n,low,high):Int×Int×Int)=>ZbA n low high⟩
theorem ZbA.ev:∀d,Za2 C0 (hnd (tab [])) Tryz.f146 (.seq .u (.seq (.reg [.bool] [(6,.sc .bool)]) .u)) ZbA.S d=ZbA.S.F d:=fun _=>by kernel_rfl
theorem ZbA.sound:Zah Tryz.prog C0 146 ZbA.S:=sE Za5 ZbA.ev (Zai trivial) Tryz.func146
def Zdl.S:ZaI:=⟨0,[.sc .str],[],[.str],⟨[.bool],.sc .bool,[]⟩,
 fun (s:Str)=>Zdl s⟩
theorem Zdl.ev:∀d,Za2 C0 (hnd (tab [(146,ZbA.S)])) Tryz.f140 (.seq .u (.seq (.seq .u (.blk (.loopS ⟨[.str,.int .i64,.int .i64],[(0,.sc .str),(6,.sc (.int .i64)),(7,.sc (.int .i64))],[]⟩ (fun ((s1,t,t1):Str×Int×Int)=>(t-t1).toNat+1) 0 ⟨[.str],[(0,.sc .str)],[]⟩ (.seq .u (.seq .u (.seq (.blk (.seq .u (.seq .u (.seq (.reg [.bool] [(38,.sc .bool)]) .u)))) .u)))))) (.seq (.reg [.bool] [(2,.sc .bool)]) .u))) Zdl.S d=Zdl.S.F d:=fun _=>by kernel_rfl
theorem Zdl.sound:Zah Tryz.prog C0 140 Zdl.S:=sE Za5 Zdl.ev (Zai ⟨ZbA.sound,trivial⟩) Tryz.func140
def ZhH.S:ZaI:=⟨0,[.sc (.int .i64),.sc (.int .i64),.sc (.int .i64)],[],[.int .i64,.int .i64,.int .i64],⟨[.bool],.sc .bool,[]⟩,
 fun ((n,low,high):Int×Int×Int)=>ZhH n low high⟩
theorem ZhH.ev:∀d,Za2 C0 (hnd (tab [])) Tryz.f116 (.seq .u (.seq (.reg [.bool] [(6,.sc .bool)]) .u)) ZhH.S d=ZhH.S.F d:=fun _=>by kernel_rfl
theorem ZhH.sound:Zah Tryz.prog C0 116 ZhH.S:=sE Za5 ZhH.ev (Zai trivial) Tryz.func116
def Ze7.S:ZaI:=⟨0,[.sc .str,.sc (.int .u8),.sc (.int .i64)],[],[.str,.int .u8,.int .i64],⟨[.list [.str]],.full 0,[.arr [.str]]⟩,
 fun ((s,b,most):Str×Int×Int)=>Ze7 s b most⟩
theorem Ze7.ev:∀d,Za2 C0 (hnd (tab [])) Tryz.f141 (.seq .u (.seq .u (.seq .u (.seq (.seq .u (.blk (.loop ⟨[.str,.int .u8,.int .i64,.int .i64,.int .i64,.list [.str]],[(0,.sc .str),(1,.sc (.int .u8)),(2,.sc (.int .i64)),(7,.full 0),(8,.sc (.int .i64)),(9,.sc (.int .i64))],[.arr [.str]]⟩ (fun ((s1,b1,most1,from_,i,out):Str×Int×Int×Int×Int×List Str)=>((s1.length:Int)-i).toNat+1) 0 ⟨[.str,.int .i64,.list [.str]],[(0,.sc .str),(7,.full 0),(8,.sc (.int .i64))],[.arr [.str]]⟩ (.seq (.seq (.reg [.bool] [(20,.sc .bool)]) .u) .u)))) .u)))) Ze7.S d=Ze7.S.F d:=fun _=>by kernel_rfl
theorem Ze7.sound:Zah Tryz.prog C0 141 Ze7.S:=sE Za5 Ze7.ev (Zai trivial) Tryz.func141
def Zaq.S:ZaI:=⟨0,[.sc .str],[],[.str],⟨[.bool],.sc .bool,[]⟩,
 fun (s:Str)=>Zaq s⟩
theorem Zaq.ev:∀d,Za2 C0 (hnd (tab [(116,ZhH.S),(141,Ze7.S)])) Tryz.f94 (.seq .u (.seq .u (.seq (.seq .u (.blk (.loopS ⟨[.int .i64,.list [.str]],[(3,.full 0),(4,.sc (.int .i64))],[.arr [.str]]⟩ (fun ((i,list):Int×List Str)=>((list.length:Int)-i).toNat+1) 0 ⟨[.list [.str]],[(3,.full 0)],[.arr [.str]]⟩ (.seq .u (.seq (.blk (.seq .u (.seq (.seq .u (.blk (.loopS ⟨[.int .i64,.str,.int .i64,.list [.str]],[(3,.full 0),(4,.sc (.int .i64)),(5,.sc .str),(6,.sc (.int .i64))],[.arr [.str]]⟩ (fun ((i1,w,k,list1):Int×Str×Int×List Str)=>((w.length:Int)-k).toNat+1) 2 ⟨[.int .i64,.str,.list [.str]],[(3,.full 0),(4,.sc (.int .i64)),(5,.sc .str)],[.arr [.str]]⟩ (.seq .u (.seq (.blk (.seq (.reg [.bool] [(68,.sc .bool)]) .u)) .u))))) (.seq (.reg [.bool] [(80,.sc .bool)]) .u)))) .u))))) .u))) Zaq.S d=Zaq.S.F d:=fun _=>by kernel_rfl
theorem Zaq.sound:Zah Tryz.prog C0 94 Zaq.S:=sE Za5 Zaq.ev (Zai ⟨ZhH.sound,Ze7.sound,trivial⟩) Tryz.func94
def ZdA.S:ZaI:=⟨0,[.sc .str,.sc .str],[],[.str,.str],⟨[.bool],.sc .bool,[]⟩,
 fun ((a,b):Str×Str)=>ZdA a b⟩
theorem ZdA.ev:∀d,Za2 C0 (hnd (tab [])) Tryz.f107 (.seq .u (.seq (.reg [.bool] [(4,.sc .bool)]) .u)) ZdA.S d=ZdA.S.F d:=fun _=>by kernel_rfl
theorem ZdA.sound:Zah Tryz.prog C0 107 ZdA.S:=sE Za5 ZdA.ev (Zai trivial) Tryz.func107
def ZcP.S:ZaI:=⟨0,[.sc .str,.sc .str],[],[.str,.str],⟨[.bool],.sc .bool,[]⟩,
 fun ((s,p):Str×Str)=>ZcP s p⟩
theorem ZcP.ev:∀d,Za2 C0 (hnd (tab [])) Tryz.f148 (.seq .u (.seq (.reg [.bool] [(4,.sc .bool)]) .u)) ZcP.S d=ZcP.S.F d:=fun _=>by kernel_rfl
theorem ZcP.sound:Zah Tryz.prog C0 148 ZcP.S:=sE Za5 ZcP.ev (Zai trivial) Tryz.func148
def ZcU.S:ZaI:=⟨0,[.sc .str,.sc .str],[],[.str,.str],⟨[.bool],.sc .bool,[]⟩,
 fun ((s,p):Str×Str)=>ZcU s p⟩
theorem ZcU.ev:∀d,Za2 C0 (hnd (tab [(148,ZcP.S)])) Tryz.f105 .u ZcU.S d=ZcU.S.F d:=fun _=>by kernel_rfl
theorem ZcU.sound:Zah Tryz.prog C0 105 ZcU.S:=sE Za5 ZcU.ev (Zai ⟨ZcP.sound,trivial⟩) Tryz.func105
def Zcw.S:ZaI:=ZjK
theorem Zcw.sound:Zah Tryz.prog C0 275 Zcw.S:=ZmY Tryz.func275 (by kernel_rfl) (by kernel_rfl) (by kernel_rfl) (by kernel_rfl)
def ZdY.S:ZaI:=ZjX
theorem ZdY.sound:Zah Tryz.prog C0 231 ZdY.S:=Znq Tryz.func231 (by kernel_rfl) (by kernel_rfl) (by kernel_rfl) (by kernel_rfl)
def ZcO.S:ZaI:=⟨0,[.sc .str,.sc (.int .u8)],[],[.str,.int .u8],⟨[.int .i64],.sc (.int .i64),[]⟩,
 fun ((s,c):Str×Int)=>ZcO s c⟩
theorem ZcO.ev:∀d,Za2 C0 (hnd (tab [(275,Zcw.S)])) Tryz.f252 .u ZcO.S d=ZcO.S.F d:=fun _=>by kernel_rfl
theorem ZcO.sound:Zah Tryz.prog C0 252 ZcO.S:=sE Za5 ZcO.ev (Zai ⟨Zcw.sound,trivial⟩) Tryz.func252
def Ze8.S:ZaI:=⟨0,[.sc .str,.cstr [47]],[],[.str],⟨[.int .i64],.sc (.int .i64),[]⟩,
 fun (s:Str)=>Ze8 s⟩
theorem Ze8.ev:∀d,Za2 C0 (hnd (tab [(252,ZcO.S)])) Tryz.f232 (.seq .u (.seq .u (.seq (.blk (.seq (.reg [.bool] [(16,.sc .bool)]) .u)) .u))) Ze8.S d=Ze8.S.F d:=fun _=>by kernel_rfl
theorem Ze8.sound:Zah Tryz.prog C0 232 Ze8.S:=sE Za5 Ze8.ev (Zai ⟨ZcO.sound,trivial⟩) Tryz.func232
def Zgt.S:ZaI:=⟨0,[.sc .str,.cstr [47]],[],[.str],⟨[.int .i64],.sc (.int .i64),[]⟩,
 fun (s:Str)=>Zgt s⟩
theorem Zgt.ev:∀d,Za2 C0 (hnd (tab [(232,Ze8.S)])) Tryz.f215 .u Zgt.S d=Zgt.S.F d:=fun _=>by kernel_rfl
theorem Zgt.sound:Zah Tryz.prog C0 215 Zgt.S:=sE Za5 Zgt.ev (Zai ⟨Ze8.sound,trivial⟩) Tryz.func215
def Zg6.S:ZaI:=⟨0,[.sc .str,.cstr [47]],[],[.str],⟨[.int .i64],.sc (.int .i64),[]⟩,
 fun (s:Str)=>Zg6 s⟩
theorem Zg6.ev:∀d,Za2 C0 (hnd (tab [(231,ZdY.S)])) Tryz.f214 .u Zg6.S d=Zg6.S.F d:=fun _=>by kernel_rfl
theorem Zg6.sound:Zah Tryz.prog C0 214 Zg6.S:=sE Za5 Zg6.ev (Zai ⟨ZdY.sound,trivial⟩) Tryz.func214
def Zbi.S:ZaI:=⟨0,[.sc .str,.cstr [47],.cint .i64 0,.cint .i64 (-1)],[],[.str],⟨[.list [.str]],.sc (.list [.str]),[]⟩,
 fun (s:Str)=>Zbi s⟩
theorem Zbi.ev:∀d,Za2 C0 (hnd (tab [(214,Zg6.S),(215,Zgt.S)])) Tryz.f182 (.seq .u (.seq .u (.seq .u (.join ⟨[.str,.int .i64],[(0,.sc .str),(1,.cstr [47]),(2,.cint .i64 0),(3,.sc (.int .i64))],[]⟩ .u (.seq .u (.seq .u (.seq .u (.seq .u (.seq (.blk (.loop ⟨[.str,.int .i64,.int .i64,.list [.str]],[(0,.sc .str),(1,.cstr [47]),(2,.cint .i64 0),(3,.sc (.int .i64)),(9,.full 0),(10,.sc (.int .i64))],[.arr [.str]]⟩ (fun ((s2,n1,i,a):Str×Int×Int×List Str)=>(n1-i).toNat+1) 0 ⟨[.str,.int .i64,.list [.str]],[(0,.sc .str),(9,.full 0),(10,.sc (.int .i64))],[.arr [.str]]⟩ .u)) .u))))))))) Zbi.S d=Zbi.S.F d:=fun _=>by kernel_rfl
theorem Zbi.sound:Zah Tryz.prog C0 182 Zbi.S:=sE Za5 Zbi.ev (Zai ⟨Zg6.sound,Zgt.sound,trivial⟩) Tryz.func182
def Zgl.S:ZaI:=⟨0,[.sc .str,.cstr [47]],[],[.str],⟨[.list [.str]],.sc (.list [.str]),[]⟩,
 fun (s:Str)=>Zgl s⟩
theorem Zgl.ev:∀d,Za2 C0 (hnd (tab [(182,Zbi.S)])) Tryz.f139 .u Zgl.S d=Zgl.S.F d:=fun _=>by kernel_rfl
theorem Zgl.sound:Zah Tryz.prog C0 139 Zgl.S:=sE Za5 Zgl.ev (Zai ⟨Zbi.sound,trivial⟩) Tryz.func139
def ZaO.S:ZaI:=⟨0,[.sc .str],[],[.str],⟨[.bool],.sc .bool,[]⟩,
 fun (s:Str)=>ZaO s⟩
theorem ZaO.ev:∀d,Za2 C0 (hnd (tab [(139,Zgl.S),(140,Zdl.S)])) Tryz.f91 (.seq .u (.seq .u (.seq (.seq .u (.blk (.loopS ⟨[.list [.str],.list [.str],.int .i64,.int .i64],[(3,.sc (.list [.str])),(8,.sc (.list [.str])),(9,.sc (.int .i64)),(10,.sc (.int .i64))],[]⟩ (fun ((parts,t,t1,t2):List Str×List Str×Int×Int)=>(t1-t2).toNat+1) 0 ⟨[.list [.str]],[(3,.sc (.list [.str]))],[]⟩ .u))) .u))) ZaO.S d=ZaO.S.F d:=fun _=>by kernel_rfl
theorem ZaO.sound:Zah Tryz.prog C0 91 ZaO.S:=sE Za5 ZaO.ev (Zai ⟨Zgl.sound,Zdl.sound,trivial⟩) Tryz.func91
def ZcQ.S:ZaI:=⟨0,[.sc (.list [.str])],[],[.list [.str]],⟨[.bool],.sc .bool,[]⟩,
 fun (xs:List Str)=>ZcQ xs⟩
theorem ZcQ.ev:∀d,Za2 C0 (hnd (tab [(105,ZcU.S)])) Tryz.f92 (.seq .u (.seq (.seq .u (.blk (.loopS ⟨[.list [.str],.list [.str],.int .i64,.int .i64],[(0,.sc (.list [.str])),(7,.sc (.list [.str])),(8,.sc (.int .i64)),(9,.sc (.int .i64))],[]⟩ (fun ((names,t,t1,t2):List Str×List Str×Int×Int)=>(t1-t2).toNat+1) 0 ⟨[],[],[]⟩ (.seq .u (.seq .u (.seq (.blk (.seq .u (.seq .u (.blk (.loopS ⟨[.list [.str],.str,.list [.str],.int .i64,.int .i64,.list [.str],.int .i64,.int .i64],[(0,.sc (.list [.str])),(4,.sc .str),(7,.sc (.list [.str])),(8,.sc (.int .i64)),(9,.sc (.int .i64)),(16,.sc (.list [.str])),(17,.sc (.int .i64)),(18,.sc (.int .i64))],[]⟩ (fun ((names1,a,t3,t4,t5,t6,t7,t8):List Str×Str×List Str×Int×Int×List Str×Int×Int)=>(t7-t8).toNat+1) 2 ⟨[.list [.str],.list [.str],.int .i64,.int .i64],[(0,.sc (.list [.str])),(7,.sc (.list [.str])),(8,.sc (.int .i64)),(9,.sc (.int .i64))],[]⟩ (.seq .u (.seq .u (.seq (.blk (.seq .u (.seq (.reg [.bool] [(36,.sc .bool)]) .u))) .u)))))))) .u)))))) .u)) ZcQ.S d=ZcQ.S.F d:=fun _=>by kernel_rfl
theorem ZcQ.sound:Zah Tryz.prog C0 92 ZcQ.S:=sE Za5 ZcQ.ev (Zai ⟨ZcU.sound,trivial⟩) Tryz.func92
def ZeE.S:ZaI:=⟨0,[.agg [.sc (.int .i64),.sc (.int .i64)]],[],[.int .i64,.int .i64],⟨[.bool],.sc .bool,[]⟩,
 fun ((num,bits):Int×Int)=>ZeE num bits⟩
theorem ZeE.ev:∀d,Za2 C0 (hnd (tab [(146,ZbA.S)])) Tryz.f250 (.seq .u (.seq (.reg [.bool] [(2,.sc .bool)]) .u)) ZeE.S d=ZeE.S.F d:=fun _=>by kernel_rfl
theorem ZeE.sound:Zah Tryz.prog C0 250 ZeE.S:=sE Za5 ZeE.ev (Zai ⟨ZbA.sound,trivial⟩) Tryz.func250
def Zff.S:ZaI:=⟨1,[.ptr 0 0,.sc (.int .i64),.sc (.int .i64)],[.box [.full 1,.sc (.int .i64)],.arr [.int .u8]],[.int .i64,.int .i64,.int .i64,.list [.int .u8]],⟨[.int .i64,.list [.int .u8]],.tup [],[.box [.full 1,.sc (.int .i64)],.arr [.int .u8]]⟩,
 fun ((num,bits,many,b):Int×Int×Int×List Int)=>Zff num bits many b⟩
theorem Zff.ev:∀d,Za2 C0 (hnd (tab [])) Tryz.f202 (.seq .u (.blk (.loop ⟨[.int .i64,.int .i64,.int .i64,.int .i64,.list [.int .u8]],[(0,.ptr 0 0),(1,.sc (.int .i64)),(7,.sc (.int .i64)),(8,.sc (.int .i64))],[.box [.full 1,.sc (.int .i64)],.arr [.int .u8]]⟩ (fun ((num1,t,t1,o,o1):Int×Int×Int×Int×List Int)=>(t-t1).toNat+1) 0 ⟨[.int .i64,.list [.int .u8]],[],[.box [.full 1,.sc (.int .i64)],.arr [.int .u8]]⟩ (.seq .u (.seq .u (.seq (.blk (.seq .u (.join ⟨[.int .i64,.int .i64,.int .i64,.int .i64,.int .i64,.list [.int .u8]],[(0,.ptr 0 0),(1,.sc (.int .i64)),(6,.sc (.int .i64)),(7,.sc (.int .i64)),(8,.sc (.int .i64))],[.box [.full 1,.sc (.int .i64)],.arr [.int .u8]]⟩ .u .u))) .u)))))) Zff.S d=Zff.S.F d:=fun _=>by kernel_rfl
theorem Zff.sound:Zah Tryz.prog C0 202 Zff.S:=sE Za5 Zff.ev (Zai trivial) Tryz.func202
def Zkc.S:ZaI:=⟨1,[.ptr 0 0],[.box [.full 1,.sc (.int .i64)],.arr [.int .u8]],[.int .i64,.list [.int .u8]],⟨[.int .i64,.list [.int .u8]],.tup [],[.box [.full 1,.sc (.int .i64)],.arr [.int .u8]]⟩,
 fun ((many,b):Int×List Int)=>Zkc many b⟩
theorem Zkc.ev:∀d,Za2 C0 (hnd (tab [])) Tryz.f203 .u Zkc.S d=Zkc.S.F d:=fun _=>by kernel_rfl
theorem Zkc.sound:Zah Tryz.prog C0 203 Zkc.S:=sE Za5 Zkc.ev (Zai trivial) Tryz.func203
def Zi0.S:ZaI:=⟨1,[.ptr 0 0],[.box [.sc .str,.sc (.int .i64),.sc .bool]],[.str,.int .i64,.bool],⟨[.int .i64,.str,.int .i64,.bool],.sc (.int .i64),[.box [.sc .str,.sc (.int .i64),.sc .bool]]⟩,
 fun ((s,at_,bad):Str×Int×Bool)=>Zi0 s at_ bad⟩
theorem Zi0.ev:∀d,Za2 C0 (hnd (tab [])) Tryz.f169 .u Zi0.S d=Zi0.S.F d:=fun _=>by kernel_rfl
theorem Zi0.sound:Zah Tryz.prog C0 169 Zi0.S:=sE Za5 Zi0.ev (Zai trivial) Tryz.func169
def Zfi.S:ZaI:=⟨1,[.ptr 0 0,.sc (.int .i64)],[.box [.sc .str,.sc (.int .i64),.sc .bool]],[.int .i64,.str,.int .i64,.bool],⟨[.int .i64,.str,.int .i64,.bool],.sc (.int .i64),[.box [.sc .str,.sc (.int .i64),.sc .bool]]⟩,
 fun ((bits,s,at_,bad):Int×Str×Int×Bool)=>Zfi bits s at_ bad⟩
theorem Zfi.ev:∀d,Za2 C0 (hnd (tab [(169,Zi0.S)])) Tryz.f170 (.seq .u (.seq .u (.seq (.seq .u (.blk (.loop ⟨[.int .i64,.int .i64,.int .i64,.str,.int .i64,.bool],[(0,.ptr 0 0),(5,.sc (.int .i64)),(7,.sc (.int .i64)),(8,.sc (.int .i64))],[.box [.sc .str,.sc (.int .i64),.sc .bool]]⟩ (fun ((n,t,t1,o,o1,o2):Int×Int×Int×Str×Int×Bool)=>(t-t1).toNat+1) 0 ⟨[.int .i64,.str,.int .i64,.bool],[(5,.sc (.int .i64))],[.box [.sc .str,.sc (.int .i64),.sc .bool]]⟩ .u))) .u))) Zfi.S d=Zfi.S.F d:=fun _=>by kernel_rfl
theorem Zfi.sound:Zah Tryz.prog C0 170 Zfi.S:=sE Za5 Zfi.ev (Zai ⟨Zi0.sound,trivial⟩) Tryz.func170
def Zez.S:ZaI:=⟨1,[.ptr 0 0],[.box [.sc .str,.sc (.int .i64),.sc .bool]],[.str,.int .i64,.bool],⟨[.str,.int .i64,.bool],.tup [],[.box [.sc .str,.sc (.int .i64),.sc .bool]]⟩,
 fun ((s,at_,bad):Str×Int×Bool)=>Zez s at_ bad⟩
theorem Zez.ev:∀d,Za2 C0 (hnd (tab [(169,Zi0.S)])) Tryz.f175 (.blk (.loop ⟨[.str,.int .i64,.bool],[(0,.ptr 0 0)],[.box [.sc .str,.sc (.int .i64),.sc .bool]]⟩ (fun ((o,o1,o2):Str×Int×Bool)=>9) 0 ⟨[.str,.int .i64,.bool],[],[.box [.sc .str,.sc (.int .i64),.sc .bool]]⟩ .u)) Zez.S d=Zez.S.F d:=fun _=>by kernel_rfl
theorem Zez.sound:Zah Tryz.prog C0 175 Zez.S:=sE Za5 Zez.ev (Zai ⟨Zi0.sound,trivial⟩) Tryz.func175
def ZbE.S:ZaI:=⟨0,[.sc (.int .i64),.sc (.int .i64)],[],[.int .i64,.int .i64],⟨[.int .i64],.sc (.int .i64),[]⟩,
 fun ((num,bits):Int×Int)=>ZbE num bits⟩
theorem ZbE.ev:∀d,Za2 C0 (hnd (tab [(250,ZeE.S)])) Tryz.f228 (.seq .u (.seq .u (.seq .u (.seq (.seq .u (.blk (.loop ⟨[.int .i64,.int .i64,.int .i64,.int .i64],[(0,.sc (.int .i64)),(5,.sc (.int .i64)),(12,.sc (.int .i64)),(13,.sc (.int .i64))],[]⟩ (fun ((num1,out,t,t1):Int×Int×Int×Int)=>(t-t1).toNat+1) 0 ⟨[.int .i64],[(5,.sc (.int .i64))],[]⟩ .u))) .u)))) ZbE.S d=ZbE.S.F d:=fun _=>by kernel_rfl
theorem ZbE.sound:Zah Tryz.prog C0 228 ZbE.S:=sE Za5 ZbE.ev (Zai ⟨ZeE.sound,trivial⟩) Tryz.func228
def ZaH.S:ZaI:=⟨0,[.sc (.int .u32),.sc .str],[],[.int .u32,.str],⟨[.int .u32],.sc (.int .u32),[]⟩,
 fun ((crc_,text):Int×Str)=>ZaH crc_ text⟩
theorem ZaH.ev:∀d,Za2 C0 (hnd (tab [])) Tryz.f201 (.seq .u (.seq .u (.seq (.seq .u (.blk (.loop ⟨[.int .u32,.str,.int .i64],[(0,.sc (.int .u32)),(1,.sc .str),(5,.sc (.int .i64))],[]⟩ (fun ((crc_1,text1,k):Int×Str×Int)=>((text1.length:Int)-k).toNat+1) 0 ⟨[.int .u32],[(0,.sc (.int .u32))],[]⟩ (.seq .u (.seq (.blk (.seq .u (.seq .u (.blk (.loop ⟨[.int .u32,.str,.int .i64,.int .i64],[(0,.sc (.int .u32)),(1,.sc .str),(5,.sc (.int .i64)),(20,.sc (.int .i64))],[]⟩ (fun ((crc_2,text2,k1,t):Int×Str×Int×Int)=>(8-t).toNat+1) 2 ⟨[.int .u32,.str,.int .i64],[(0,.sc (.int .u32)),(1,.sc .str),(5,.sc (.int .i64))],[]⟩ .u))))) .u))))) .u))) ZaH.S d=ZaH.S.F d:=fun _=>by kernel_rfl
theorem ZaH.sound:Zah Tryz.prog C0 201 ZaH.S:=sE Za5 ZaH.ev (Zai trivial) Tryz.func201
def crc.S:ZaI:=⟨0,[.sc .str],[],[.str],⟨[.int .i64],.sc (.int .i64),[]⟩,
 fun (text:Str)=>crc text⟩
theorem crc.ev:∀d,Za2 C0 (hnd (tab [(201,ZaH.S)])) Tryz.f176 .u crc.S d=crc.S.F d:=fun _=>by kernel_rfl
theorem crc.sound:Zah Tryz.prog C0 176 crc.S:=sE Za5 crc.ev (Zai ⟨ZaH.sound,trivial⟩) Tryz.func176
def Zcn.S:ZaI:=⟨0,[.sc (.list [.int .i64])],[],[.list [.int .i64]],⟨[.bool],.sc .bool,[]⟩,
 fun (lens:List Int)=>Zcn lens⟩
theorem Zcn.ev:∀d,Za2 C0 (hnd (tab [(146,ZbA.S)])) Tryz.f195 (.seq .u (.seq .u (.seq .u (.seq (.seq .u (.blk (.loopS ⟨[.int .i64,.int .i64,.int .i64,.list [.int .i64],.int .i64,.int .i64],[(3,.sc (.int .i64)),(4,.sc (.int .i64)),(5,.sc (.int .i64)),(11,.sc (.list [.int .i64])),(12,.sc (.int .i64)),(13,.sc (.int .i64))],[]⟩ (fun ((sum,many,last,t,t1,t2):Int×Int×Int×List Int×Int×Int)=>(t1-t2).toNat+1) 0 ⟨[.int .i64,.int .i64,.int .i64],[(3,.sc (.int .i64)),(4,.sc (.int .i64)),(5,.sc (.int .i64))],[]⟩ .u))) (.seq (.reg [.bool] [(2,.sc .bool)]) .u))))) Zcn.S d=Zcn.S.F d:=fun _=>by kernel_rfl
theorem Zcn.sound:Zah Tryz.prog C0 195 Zcn.S:=sE Za5 Zcn.ev (Zai ⟨ZbA.sound,trivial⟩) Tryz.func195
def ZcM.S:ZaI:=⟨0,[.sc (.list [.int .i64])],[],[.list [.int .i64]],⟨[.list [.int .i64]],.full 0,[.arr [.int .i64]]⟩,
 fun (lens:List Int)=>ZcM lens⟩
theorem ZcM.ev:∀d,Za2 C0 (hnd (tab [])) Tryz.f209 (.seq .u (.seq .u (.seq .u (.seq (.seq .u (.blk (.loop ⟨[.list [.int .i64],.int .i64,.int .i64,.list [.int .i64]],[(0,.sc (.list [.int .i64])),(3,.full 0),(4,.sc (.int .i64)),(5,.sc (.int .i64))],[.arr [.int .i64]]⟩ (fun ((lens1,next_,l,out):List Int×Int×Int×List Int)=>(15-l).toNat+2) 0 ⟨[.list [.int .i64]],[(3,.full 0)],[.arr [.int .i64]]⟩ (.seq .u (.seq (.blk (.seq (.seq .u (.blk (.loop ⟨[.list [.int .i64],.int .i64,.int .i64,.list [.int .i64],.int .i64,.int .i64,.list [.int .i64]],[(0,.sc (.list [.int .i64])),(3,.full 0),(4,.sc (.int .i64)),(5,.sc (.int .i64)),(15,.sc (.list [.int .i64])),(16,.sc (.int .i64)),(17,.sc (.int .i64))],[.arr [.int .i64]]⟩ (fun ((lens2,next_1,l1,t,t1,t2,out1):List Int×Int×Int×List Int×Int×Int×List Int)=>(t1-t2).toNat+1) 2 ⟨[.list [.int .i64],.int .i64,.int .i64,.list [.int .i64]],[(0,.sc (.list [.int .i64])),(3,.full 0),(4,.sc (.int .i64)),(5,.sc (.int .i64))],[.arr [.int .i64]]⟩ .u))) .u)) .u))))) .u)))) ZcM.S d=ZcM.S.F d:=fun _=>by kernel_rfl
theorem ZcM.sound:Zah Tryz.prog C0 209 ZcM.S:=sE Za5 ZcM.ev (Zai trivial) Tryz.func209
def Za4.S:ZaI:=⟨0,[.sc (.list [.int .i64,.ints .i64])],[],[.list [.int .i64,.ints .i64]],⟨[.int .i64,.list [.int .i64],.list [.int .i64,.ints .i64]],.tup [.agg [.sc (.int .i64),.sc (.list [.int .i64])],.full 0],[.arr [.int .i64,.ints .i64]]⟩,
 fun (list:List (Int×List Int))=>Za4 list⟩
theorem Za4.ev:∀d,Za2 C0 (hnd (tab [])) Tryz.f249 (.seq .u (.seq .u (.seq (.seq .u (.blk (.loop ⟨[.list [.int .i64,.ints .i64],.int .i64,.list [.int .i64,.ints .i64],.int .i64,.int .i64,.int .i64,.list [.int .i64]],[(0,.sc (.list [.int .i64,.ints .i64])),(2,.ptr 0 0),(4,.sc (.int .i64)),(8,.sc (.list [.int .i64,.ints .i64])),(9,.sc (.int .i64)),(10,.sc (.int .i64))],[.box [.sc (.int .i64),.full 1],.arr [.int .i64]]⟩ (fun ((list1,at_,t,t1,t2,o,o1):(List (Int×List Int))×Int×(List (Int×List Int))×Int×Int×Int×List Int)=>(t1-t2).toNat+1) 0 ⟨[.list [.int .i64,.ints .i64],.int .i64,.int .i64,.list [.int .i64]],[(0,.sc (.list [.int .i64,.ints .i64])),(2,.ptr 0 0),(4,.sc (.int .i64))],[.box [.sc (.int .i64),.full 1],.arr [.int .i64]]⟩ (.seq .u (.seq .u (.seq (.blk (.seq .u (.seq (.reg [.bool] [(46,.sc .bool)]) .u))) .u)))))) .u))) Za4.S d=Za4.S.F d:=fun _=>by kernel_rfl
theorem Za4.sound:Zah Tryz.prog C0 249 Za4.S:=sE Za5 Za4.ev (Zai trivial) Tryz.func249
end Ev
end
section
open Go Go.Proofs
set_option maxRecDepth 100000
namespace Ev
set_option maxHeartbeats 1000000
def Zbl.S:ZaI:=⟨0,[.sc (.list [.int .i64])],[],[.list [.int .i64]],⟨[.list [.int .i64]],.full 0,[.arr [.int .i64]]⟩,
 fun (counts:List Int)=>Zbl counts⟩
theorem Zbl.ev:∀d,Za2 C0 (hnd (tab [(249,Za4.S)])) Tryz.f227 (.seq .u (.seq .u (.seq .u (.seq (.seq .u (.blk (.loop ⟨[.list [.int .i64],.int .i64,.int .i64,.list [.int .i64],.list [.int .i64,.ints .i64]],[(3,.full 0),(4,.full 1),(18,.sc (.list [.int .i64])),(19,.sc (.int .i64)),(20,.sc (.int .i64))],[.arr [.int .i64],.arr [.int .i64,.ints .i64]]⟩ (fun ((t,t1,t2,out,list):List Int×Int×Int×List Int×List (Int×List Int))=>(t1-t2).toNat+1) 0 ⟨[.list [.int .i64],.list [.int .i64,.ints .i64]],[(3,.full 0),(4,.full 1)],[.arr [.int .i64],.arr [.int .i64,.ints .i64]]⟩ .u))) (.seq .u (.seq (.blk (.loop ⟨[.list [.int .i64],.list [.int .i64,.ints .i64]],[(3,.full 0),(4,.full 1)],[.arr [.int .i64],.arr [.int .i64,.ints .i64]]⟩ (fun ((out2,list2):List Int×List (Int×List Int))=>((list2.length:Int)-1).toNat+1) 2 ⟨[.list [.int .i64]],[(3,.full 0)],[.arr [.int .i64]]⟩ (.seq .u (.blk (.seq .u (.seq .u (.seq .u (.seq (.seq .u (.blk (.loop ⟨[.int .i64,.int .i64,.list [.int .i64],.int .i64,.list [.int .i64],.int .i64,.list [.int .i64],.list [.int .i64,.ints .i64],.list [.int .i64]],[(3,.full 0),(7,.ptr 1 0),(9,.ptr 2 0),(10,.full 3),(11,.full 4),(67,.full 4),(68,.sc (.int .i64)),(69,.sc (.int .i64))],[.arr [.int .i64],.box [.sc (.int .i64),.sc (.list [.int .i64])],.box [.sc (.int .i64),.sc (.list [.int .i64])],.arr [.int .i64,.ints .i64],.arr [.int .i64]]⟩ (fun ((t3,t4,out3,o,o1,o2,o3,left,o4):Int×Int×List Int×Int×List Int×Int×List Int×(List (Int×List Int))×List Int)=>(t3-t4).toNat+1) 4 ⟨[.list [.int .i64],.int .i64,.list [.int .i64],.int .i64,.list [.int .i64],.list [.int .i64,.ints .i64],.list [.int .i64]],[(3,.full 0),(7,.ptr 1 0),(9,.ptr 2 0),(10,.full 3),(11,.full 4)],[.arr [.int .i64],.box [.sc (.int .i64),.sc (.list [.int .i64])],.box [.sc (.int .i64),.sc (.list [.int .i64])],.arr [.int .i64,.ints .i64],.arr [.int .i64]]⟩ .u))) .u)))))))) .u)))))) Zbl.S d=Zbl.S.F d:=fun _=>by kernel_rfl
theorem Zbl.sound:Zah Tryz.prog C0 227 Zbl.S:=sE Za5 Zbl.ev (Zai ⟨Za4.sound,trivial⟩) Tryz.func227
def Za0.S:ZaI:=⟨0,[.sc (.list [.int .i64]),.sc (.int .i64)],[],[.list [.int .i64],.int .i64],⟨[.list [.int .i64]],.full 0,[.arr [.int .i64]]⟩,
 fun ((counts,most):List Int×Int)=>Za0 counts most⟩
theorem Za0.ev:∀d,Za2 C0 (hnd (tab [(146,ZbA.S),(227,Zbl.S)])) Tryz.f208 (.seq .u (.seq (.seq (.reg [.bool] [(21,.sc .bool)]) .u) (.seq .u (.seq .u (.seq (.seq .u (.blk (.loopS ⟨[.int .i64,.int .i64,.list [.int .i64],.int .i64,.int .i64,.list [.int .i64]],[(1,.sc (.int .i64)),(5,.full 0),(6,.sc (.int .i64)),(24,.sc (.list [.int .i64])),(25,.sc (.int .i64)),(26,.sc (.int .i64))],[.arr [.int .i64]]⟩ (fun ((most1,many,t,t1,t2,now):Int×Int×List Int×Int×Int×List Int)=>(t1-t2).toNat+1) 0 ⟨[.int .i64,.int .i64,.list [.int .i64]],[(1,.sc (.int .i64)),(5,.full 0),(6,.sc (.int .i64))],[.arr [.int .i64]]⟩ .u))) (.seq .u (.blk (.loopS ⟨[.int .i64,.list [.int .i64]],[(1,.sc (.int .i64)),(5,.full 0)],[.arr [.int .i64]]⟩ (fun ((most3,now2):Int×List Int)=>100000) 9999 ⟨[],[],[]⟩ (.blk (.seq .u (.seq .u (.seq (.seq .u (.blk (.loop ⟨[.int .i64,.int .i64,.int .i64,.int .i64,.list [.int .i64],.list [.int .i64]],[(1,.sc (.int .i64)),(5,.full 0),(9,.full 1),(10,.sc (.int .i64)),(52,.full 1),(53,.sc (.int .i64)),(54,.sc (.int .i64))],[.arr [.int .i64],.arr [.int .i64]]⟩ (fun ((most4,long,t3,t4,now3,o):Int×Int×Int×Int×List Int×List Int)=>(t3-t4).toNat+1) 4 ⟨[.int .i64,.int .i64,.list [.int .i64],.list [.int .i64]],[(1,.sc (.int .i64)),(5,.full 0),(9,.full 1),(10,.sc (.int .i64))],[.arr [.int .i64],.arr [.int .i64]]⟩ .u))) (.seq .u (.seq .u (.blk (.loop ⟨[.int .i64,.int .i64,.int .i64,.list [.int .i64]],[(1,.sc (.int .i64)),(5,.full 0),(67,.sc (.int .i64)),(68,.sc (.int .i64))],[.arr [.int .i64]]⟩ (fun ((most6,t5,t6,now5):Int×Int×Int×List Int)=>(t5-t6).toNat+1) 6 ⟨[.int .i64,.list [.int .i64]],[(1,.sc (.int .i64)),(5,.full 0)],[.arr [.int .i64]]⟩ .u)))))))))))))))) Za0.S d=Za0.S.F d:=fun _=>by kernel_rfl
theorem Za0.sound:Zah Tryz.prog C0 208 Za0.S:=sE Za5 Za0.ev (Zai ⟨ZbA.sound,Zbl.sound,trivial⟩) Tryz.func208
def Zcq.S:ZaI:=⟨0,[.sc (.list [.int .i64])],[],[.list [.int .i64]],⟨[.map [.int .i64,.int .i64] [.int .i64]],.map 0,[.map [.int .i64,.int .i64] [.int .i64]]⟩,
 fun (lens:List Int)=>Zcq lens⟩
theorem Zcq.ev:∀d,Za2 C0 (hnd (tab [(209,ZcM.S)])) Tryz.f196 (.seq .u (.seq .u (.seq (.seq .u (.blk (.loop ⟨[.list [.int .i64],.int .i64,.int .i64,.map [.int .i64,.int .i64] [.int .i64],.list [.int .i64]],[(0,.sc (.list [.int .i64])),(3,.map 0),(8,.full 1),(9,.sc (.int .i64)),(10,.sc (.int .i64))],[.map [.int .i64,.int .i64] [.int .i64],.arr [.int .i64]]⟩ (fun ((lens1,t,t1,o,o1):List Int×Int×Int×(List ((Int×Int)×Int))×List Int)=>(t-t1).toNat+1) 0 ⟨[.map [.int .i64,.int .i64] [.int .i64]],[(3,.map 0)],[.map [.int .i64,.int .i64] [.int .i64]]⟩ .u))) .u))) Zcq.S d=Zcq.S.F d:=fun _=>by kernel_rfl
theorem Zcq.sound:Zah Tryz.prog C0 196 Zcq.S:=sE Za5 Zcq.ev (Zai ⟨ZcM.sound,trivial⟩) Tryz.func196
def Zbn.S:ZaI:=⟨2,[.ptr 0 0,.map 1],[.box [.sc .str,.sc (.int .i64),.sc .bool],.map [.int .i64,.int .i64] [.int .i64]],[.str,.int .i64,.bool,.map [.int .i64,.int .i64] [.int .i64]],⟨[.int .i64,.str,.int .i64,.bool,.map [.int .i64,.int .i64] [.int .i64]],.sc (.int .i64),[.box [.sc .str,.sc (.int .i64),.sc .bool],.map [.int .i64,.int .i64] [.int .i64]]⟩,
 fun ((s,at_,bad,book):Str×Int×Bool×List ((Int×Int)×Int))=>Zbn s at_ bad book⟩
theorem Zbn.ev:∀d,Za2 C0 (hnd (tab [(169,Zi0.S)])) Tryz.f197 (.seq .u (.seq .u (.seq (.seq .u (.blk (.loopS ⟨[.int .i64,.int .i64,.str,.int .i64,.bool,.map [.int .i64,.int .i64] [.int .i64]],[(0,.ptr 0 0),(1,.map 1),(5,.sc (.int .i64)),(6,.sc (.int .i64))],[.box [.sc .str,.sc (.int .i64),.sc .bool],.map [.int .i64,.int .i64] [.int .i64]]⟩ (fun ((code_,l,o,o1,o2,o3):Int×Int×Str×Int×Bool×List ((Int×Int)×Int))=>(15-l).toNat+2) 0 ⟨[.str,.int .i64,.bool,.map [.int .i64,.int .i64] [.int .i64]],[(0,.ptr 0 0)],[.box [.sc .str,.sc (.int .i64),.sc .bool],.map [.int .i64,.int .i64] [.int .i64]]⟩ (.seq .u (.seq (.blk (.seq .u (.seq .u (.seq (.reg [.bool] [(33,.sc .bool)]) .u)))) .u))))) .u))) Zbn.S d=Zbn.S.F d:=fun _=>by kernel_rfl
theorem Zbn.sound:Zah Tryz.prog C0 197 Zbn.S:=sE Za5 Zbn.ev (Zai ⟨Zi0.sound,trivial⟩) Tryz.func197
def add.S:ZaI:=⟨0,[.full 0,.agg [.sc (.int .i64),.sc (.int .i64),.sc (.int .i64)]],[.arr [.int .u8]],[.int .i64,.int .i64,.int .i64,.list [.int .u8]],⟨[.bool,.list [.int .u8]],.tup [.full 0,.sc .bool],[.arr [.int .u8]]⟩,
 fun ((byte,long,back,out):Int×Int×Int×List Int)=>add byte long back out⟩
theorem add.ev:∀d,Za2 C0 (hnd (tab [(146,ZbA.S)])) Tryz.f200 (.seq .u (.seq (.seq .u (.cond (.seq (.seq (.reg [.bool] [(17,.sc .bool)]) .u) .u) .u)) (.seq (.seq (.reg [.bool] [(41,.sc .bool)]) .u) (.seq (.seq .u (.blk (.loop ⟨[.int .i64,.int .i64,.list [.int .u8],.int .i64,.int .i64,.int .i64],[(0,.full 0),(3,.ptr 1 0),(43,.sc (.int .i64)),(44,.sc (.int .i64))],[.arr [.int .u8],.box [.sc (.int .i64),.sc (.int .i64),.sc (.int .i64)]]⟩ (fun ((t,t1,out1,o,o1,o2):Int×Int×List Int×Int×Int×Int)=>(t-t1).toNat+1) 0 ⟨[.list [.int .u8]],[(0,.full 0)],[.arr [.int .u8]]⟩ .u))) .u)))) add.S d=add.S.F d:=fun _=>by kernel_rfl
theorem add.sound:Zah Tryz.prog C0 200 add.S:=sE Za5 add.ev (Zai ⟨ZbA.sound,trivial⟩) Tryz.func200
def Zar.S:ZaI:=⟨0,[.sc .str],[],[.str],⟨[.list [.int .i64,.int .i64,.int .i64]],.full 0,[.arr [.int .i64,.int .i64,.int .i64]]⟩,
 fun (text:Str)=>Zar text⟩
theorem Zar.ev:∀d,Za2 C0 (hnd (tab [])) Tryz.f205 (.seq .u (.seq .u (.seq .u (.seq (.seq .u (.blk (.loop ⟨[.str,.int .i64,.list [.int .i64,.int .i64,.int .i64]],[(0,.sc .str),(3,.full 0),(4,.sc (.int .i64))],[.arr [.int .i64,.int .i64,.int .i64]]⟩ (fun ((text1,at_,out):Str×Int×List (Int×Int×Int))=>((text1.length:Int)-at_).toNat+1) 0 ⟨[.list [.int .i64,.int .i64,.int .i64]],[(3,.full 0)],[.arr [.int .i64,.int .i64,.int .i64]]⟩ (.seq .u (.blk (.seq .u (.seq (.seq .u (.blk (.loop ⟨[.str,.int .i64,.int .i64,.list [.int .i64,.int .i64,.int .i64],.int .i64,.int .i64,.int .i64],[(0,.sc .str),(3,.full 0),(4,.sc (.int .i64)),(5,.ptr 1 0),(6,.sc (.int .i64))],[.arr [.int .i64,.int .i64,.int .i64],.box [.sc (.int .i64),.sc (.int .i64),.sc (.int .i64)]]⟩ (fun ((text2,at_1,back,out1,o,o1,o2):Str×Int×Int×(List (Int×Int×Int))×Int×Int×Int)=>((Zqo 250 at_1)-back).toNat+2) 2 ⟨[.str,.int .i64,.list [.int .i64,.int .i64,.int .i64],.int .i64,.int .i64,.int .i64],[(0,.sc .str),(3,.full 0),(4,.sc (.int .i64)),(5,.ptr 1 0)],[.arr [.int .i64,.int .i64,.int .i64],.box [.sc (.int .i64),.sc (.int .i64),.sc (.int .i64)]]⟩ (.seq .u (.seq (.blk (.seq .u (.seq (.blk (.loop ⟨[.str,.int .i64,.int .i64,.int .i64,.list [.int .i64,.int .i64,.int .i64],.int .i64,.int .i64,.int .i64],[(0,.sc .str),(3,.full 0),(4,.sc (.int .i64)),(5,.ptr 1 0),(6,.sc (.int .i64)),(7,.sc (.int .i64))],[.arr [.int .i64,.int .i64,.int .i64],.box [.sc (.int .i64),.sc (.int .i64),.sc (.int .i64)]]⟩ (fun ((text3,at_2,back1,n,out2,o3,o4,o5):Str×Int×Int×Int×(List (Int×Int×Int))×Int×Int×Int)=>(60-n).toNat+1) 4 ⟨[.str,.int .i64,.int .i64,.int .i64,.list [.int .i64,.int .i64,.int .i64],.int .i64,.int .i64,.int .i64],[(0,.sc .str),(3,.full 0),(4,.sc (.int .i64)),(5,.ptr 1 0),(6,.sc (.int .i64)),(7,.sc (.int .i64))],[.arr [.int .i64,.int .i64,.int .i64],.box [.sc (.int .i64),.sc (.int .i64),.sc (.int .i64)]]⟩ (.seq (.seq (.reg [.bool] [(52,.sc .bool)]) .u) .u))) (.seq (.reg [.bool] [(62,.sc .bool)]) .u)))) .u))))) .u))))))) .u)))) Zar.S d=Zar.S.F d:=fun _=>by kernel_rfl
theorem Zar.sound:Zah Tryz.prog C0 205 Zar.S:=sE Za5 Zar.ev (Zai trivial) Tryz.func205
def Zcy.S:ZaI:=⟨0,[.sc (.int .i64),.sc (.int .i64),.sc (.int .i64),.sc (.int .i64)],[],[.int .i64,.int .i64,.int .i64,.int .i64],⟨[.list [.int .i64],.list [.int .i64]],.agg [.sc (.list [.int .i64]),.sc (.list [.int .i64])],[]⟩,
 fun ((from_,many,plain,each):Int×Int×Int×Int)=>Zcy from_ many plain each⟩
theorem Zcy.ev:∀d,Za2 C0 (hnd (tab [])) Tryz.f226 (.seq .u (.seq .u (.seq (.seq .u (.blk (.loop ⟨[.int .i64,.int .i64,.int .i64,.int .i64,.int .i64,.list [.int .i64],.list [.int .i64],.list [.int .i64],.list [.int .i64]],[(0,.sc (.int .i64)),(2,.sc (.int .i64)),(3,.sc (.int .i64)),(8,.ptr 0 0),(9,.ptr 1 0),(13,.sc (.int .i64)),(14,.sc (.int .i64))],[.box [.full 2,.full 3],.box [.full 4,.full 5],.arr [.int .i64],.arr [.int .i64],.arr [.int .i64],.arr [.int .i64]]⟩ (fun ((from_1,plain1,each1,t,t1,o,o1,o2,o3):Int×Int×Int×Int×Int×List Int×List Int×List Int×List Int)=>(t-t1).toNat+1) 0 ⟨[.list [.int .i64],.list [.int .i64],.list [.int .i64],.list [.int .i64]],[(8,.ptr 0 0),(9,.ptr 1 0)],[.box [.full 2,.full 3],.box [.full 4,.full 5],.arr [.int .i64],.arr [.int .i64],.arr [.int .i64],.arr [.int .i64]]⟩ (.seq .u (.seq .u (.seq (.blk (.seq .u (.seq .u (.join ⟨[.int .i64,.int .i64,.int .i64,.int .i64,.int .i64,.int .i64,.list [.int .i64],.list [.int .i64],.list [.int .i64],.list [.int .i64]],[(0,.sc (.int .i64)),(2,.sc (.int .i64)),(3,.sc (.int .i64)),(8,.ptr 0 0),(9,.ptr 1 0),(11,.sc (.int .i64)),(13,.sc (.int .i64)),(14,.sc (.int .i64))],[.box [.full 2,.full 3],.box [.full 4,.full 5],.arr [.int .i64],.arr [.int .i64],.arr [.int .i64],.arr [.int .i64]]⟩ .u .u)))) .u)))))) .u))) Zcy.S d=Zcy.S.F d:=fun _=>by kernel_rfl
theorem Zcy.sound:Zah Tryz.prog C0 226 Zcy.S:=sE Za5 Zcy.ev (Zai trivial) Tryz.func226
def Zb7.S:ZaI:=⟨0,[],[],[],⟨[.list [.int .i64],.list [.int .i64]],.agg [.sc (.list [.int .i64]),.sc (.list [.int .i64])],[]⟩,
 fun (_:Unit)=>Zb7⟩
theorem Zb7.ev:∀d,Za2 C0 (hnd (tab [(226,Zcy.S)])) Tryz.f198 .u Zb7.S d=Zb7.S.F d:=fun _=>by kernel_rfl
theorem Zb7.sound:Zah Tryz.prog C0 198 Zb7.S:=sE Za5 Zb7.ev (Zai ⟨Zcy.sound,trivial⟩) Tryz.func198
def Zcg.S:ZaI:=⟨0,[],[],[],⟨[.list [.int .i64],.list [.int .i64]],.agg [.sc (.list [.int .i64]),.sc (.list [.int .i64])],[]⟩,
 fun (_:Unit)=>Zcg⟩
theorem Zcg.ev:∀d,Za2 C0 (hnd (tab [(226,Zcy.S)])) Tryz.f199 .u Zcg.S d=Zcg.S.F d:=fun _=>by kernel_rfl
theorem Zcg.sound:Zah Tryz.prog C0 199 Zcg.S:=sE Za5 Zcg.ev (Zai ⟨Zcy.sound,trivial⟩) Tryz.func199
def Zcu.S:ZaI:=⟨0,[.agg [.sc (.list [.int .i64]),.sc (.list [.int .i64])],.sc (.int .i64)],[],[.list [.int .i64],.list [.int .i64],.int .i64],⟨[.int .i64],.sc (.int .i64),[]⟩,
 fun ((first,bits,n):List Int×List Int×Int)=>Zcu first bits n⟩
theorem Zcu.ev:∀d,Za2 C0 (hnd (tab [])) Tryz.f206 (.seq .u (.seq .u (.seq (.blk (.loop ⟨[.int .i64,.int .i64,.list [.int .i64],.list [.int .i64]],[(1,.sc (.int .i64)),(2,.ptr 0 0),(5,.sc (.int .i64))],[.box [.sc (.list [.int .i64]),.sc (.list [.int .i64])]]⟩ (fun ((n1,k,o,o1):Int×Int×List Int×List Int)=>k.toNat+1) 0 ⟨[.int .i64],[(5,.sc (.int .i64))],[]⟩ .u)) .u))) Zcu.S d=Zcu.S.F d:=fun _=>by kernel_rfl
theorem Zcu.sound:Zah Tryz.prog C0 206 Zcu.S:=sE Za5 Zcu.ev (Zai trivial) Tryz.func206
def Zbp.S:ZaI:=⟨0,[],[],[],⟨[.list [.int .i64],.list [.int .i64]],.tup [.full 0,.full 1],[.arr [.int .i64],.arr [.int .i64]]⟩,
 fun (_:Unit)=>Zbp⟩
theorem Zbp.ev:∀d,Za2 C0 (hnd (tab [])) Tryz.f172 (.seq .u (.seq .u (.seq (.seq .u (.blk (.loop ⟨[.int .i64,.int .i64,.list [.int .i64]],[(2,.full 0),(8,.sc (.int .i64)),(9,.sc (.int .i64))],[.arr [.int .i64]]⟩ (fun ((t,t1,lit):Int×Int×List Int)=>(t-t1).toNat+1) 0 ⟨[.list [.int .i64]],[(2,.full 0)],[.arr [.int .i64]]⟩ (.seq .u (.seq .u (.seq (.blk (.seq .u (.blk (.seq (.reg [.bool] [(15,.sc .bool)]) .u)))) .u)))))) (.seq .u (.seq (.seq .u (.blk (.loop ⟨[.int .i64,.int .i64,.list [.int .i64],.list [.int .i64]],[(2,.full 0),(4,.full 1),(34,.sc (.int .i64)),(35,.sc (.int .i64))],[.arr [.int .i64],.arr [.int .i64]]⟩ (fun ((t2,t3,lit2,dist):Int×Int×List Int×List Int)=>(t2-t3).toNat+1) 3 ⟨[.list [.int .i64],.list [.int .i64]],[(2,.full 0),(4,.full 1)],[.arr [.int .i64],.arr [.int .i64]]⟩ .u))) .u))))) Zbp.S d=Zbp.S.F d:=fun _=>by kernel_rfl
theorem Zbp.sound:Zah Tryz.prog C0 172 Zbp.S:=sE Za5 Zbp.ev (Zai trivial) Tryz.func172
def ZdN.S:ZaI:=⟨0,[.sc .str],[],[.str],⟨[.str],.sc .str,[]⟩,
 fun (text:Str)=>ZdN text⟩
theorem ZdN.ev:∀d,Za2 C0 (hnd (tab [(202,Zff.S),(203,Zkc.S)])) Tryz.f177 .u ZdN.S d=ZdN.S.F d:=fun _=>by kernel_rfl
theorem ZdN.sound:Zah Tryz.prog C0 177 ZdN.S:=sE Za5 ZdN.ev (Zai ⟨Zff.sound,Zkc.sound,trivial⟩) Tryz.func177
def ZgB.S:ZaI:=⟨1,[.ptr 0 0,.sc (.list [.int .i64]),.sc (.list [.int .i64]),.sc (.int .i64)],[.box [.full 1,.sc (.int .i64)],.arr [.int .u8]],[.list [.int .i64],.list [.int .i64],.int .i64,.int .i64,.list [.int .u8]],⟨[.int .i64,.list [.int .u8]],.tup [],[.box [.full 1,.sc (.int .i64)],.arr [.int .u8]]⟩,
 fun ((lens,all,s,many,b):List Int×List Int×Int×Int×List Int)=>ZgB lens all s many b⟩
theorem ZgB.ev:∀d,Za2 C0 (hnd (tab [(202,Zff.S),(228,ZbE.S)])) Tryz.f210 .u ZgB.S d=ZgB.S.F d:=fun _=>by kernel_rfl
theorem ZgB.sound:Zah Tryz.prog C0 210 ZgB.S:=sE Za5 ZgB.ev (Zai ⟨Zff.sound,ZbE.sound,trivial⟩) Tryz.func210
def ZbR.S:ZaI:=⟨1,[.ptr 0 0,.sc (.list [.int .i64,.int .i64,.int .i64]),.sc (.list [.int .i64]),.sc (.list [.int .i64])],[.box [.full 1,.sc (.int .i64)],.arr [.int .u8]],[.list [.int .i64,.int .i64,.int .i64],.list [.int .i64],.list [.int .i64],.int .i64,.list [.int .u8]],⟨[.int .i64,.list [.int .u8]],.tup [],[.box [.full 1,.sc (.int .i64)],.arr [.int .u8]]⟩,
 fun ((list,lit,dist,many,b):(List (Int×Int×Int))×List Int×List Int×Int×List Int)=>ZbR list lit dist many b⟩
theorem ZbR.ev:∀d,Za2 C0 (hnd (tab [(198,Zb7.S),(199,Zcg.S),(202,Zff.S),(206,Zcu.S),(209,ZcM.S),(210,ZgB.S)])) Tryz.f204 (.seq .u (.seq (.seq .u (.blk (.loop ⟨[.list [.int .i64],.list [.int .i64],.list [.int .i64,.int .i64,.int .i64],.int .i64,.int .i64,.int .i64,.list [.int .i64],.list [.int .i64],.list [.int .u8]],[(0,.ptr 0 0),(2,.sc (.list [.int .i64])),(3,.sc (.list [.int .i64])),(8,.full 1),(9,.full 2),(17,.sc (.list [.int .i64,.int .i64,.int .i64])),(18,.sc (.int .i64)),(19,.sc (.int .i64))],[.box [.full 3,.sc (.int .i64)],.arr [.int .i64],.arr [.int .i64],.arr [.int .u8]]⟩ (fun ((lit1,dist1,t,t1,t2,o,a,b1,o1):List Int×List Int×(List (Int×Int×Int))×Int×Int×Int×List Int×List Int×List Int)=>(t1-t2).toNat+1) 0 ⟨[.list [.int .i64],.int .i64,.list [.int .i64],.list [.int .u8]],[(0,.ptr 0 0),(2,.sc (.list [.int .i64])),(8,.full 1)],[.box [.full 2,.sc (.int .i64)],.arr [.int .i64],.arr [.int .u8]]⟩ .u))) .u)) ZbR.S d=ZbR.S.F d:=fun _=>by kernel_rfl
theorem ZbR.sound:Zah Tryz.prog C0 204 ZbR.S:=sE Za5 ZbR.ev (Zai ⟨Zb7.sound,Zcg.sound,Zff.sound,Zcu.sound,ZcM.sound,ZgB.sound,trivial⟩) Tryz.func204
def ZdT.S:ZaI:=⟨0,[.sc .str],[],[.str],⟨[.str],.sc .str,[]⟩,
 fun (text:Str)=>ZdT text⟩
theorem ZdT.ev:∀d,Za2 C0 (hnd (tab [(172,Zbp.S),(202,Zff.S),(204,ZbR.S),(205,Zar.S)])) Tryz.f178 .u ZdT.S d=ZdT.S.F d:=fun _=>by kernel_rfl
theorem ZdT.sound:Zah Tryz.prog C0 178 ZdT.S:=sE Za5 ZdT.ev (Zai ⟨Zbp.sound,Zff.sound,ZbR.sound,Zar.sound,trivial⟩) Tryz.func178
def ZbK.S:ZaI:=⟨0,[.sc (.list [.int .i64]),.sc (.int .i64)],[],[.list [.int .i64],.int .i64],⟨[.list [.int .i64]],.sc (.list [.int .i64]),[]⟩,
 fun ((lens,least_):List Int×Int)=>ZbK lens least_⟩
theorem ZbK.ev:∀d,Za2 C0 (hnd (tab [])) Tryz.f207 (.seq .u (.seq .u (.seq (.blk (.loop ⟨[.list [.int .i64],.int .i64,.int .i64],[(0,.sc (.list [.int .i64])),(1,.sc (.int .i64)),(5,.sc (.int .i64))],[]⟩ (fun ((lens1,least_1,n):List Int×Int×Int)=>(n-least_1).toNat+1) 0 ⟨[.list [.int .i64],.int .i64],[(0,.sc (.list [.int .i64])),(5,.sc (.int .i64))],[]⟩ (.seq (.seq (.reg [.bool] [(18,.sc .bool)]) .u) .u))) .u))) ZbK.S d=ZbK.S.F d:=fun _=>by kernel_rfl
theorem ZbK.sound:Zah Tryz.prog C0 207 ZbK.S:=sE Za5 ZbK.ev (Zai trivial) Tryz.func207
def Za1.S:ZaI:=⟨0,[.sc .str],[],[.str],⟨[.str],.sc .str,[]⟩,
 fun (text:Str)=>Za1 text⟩
theorem Za1.ev:∀d,Za2 C0 (hnd (tab [(198,Zb7.S),(199,Zcg.S),(202,Zff.S),(204,ZbR.S),(205,Zar.S),(206,Zcu.S),(207,ZbK.S),(208,Za0.S),(209,ZcM.S),(210,ZgB.S)])) Tryz.f179 (.seq .u (.seq .u (.seq .u (.seq .u (.seq .u (.seq .u (.seq (.seq .u (.blk (.loop ⟨[.bool,.int .i64,.int .i64,.list [.int .i64,.int .i64,.int .i64],.list [.int .i64],.list [.int .i64]],[(3,.full 0),(4,.full 1),(5,.full 2),(6,.sc .bool),(31,.full 0),(32,.sc (.int .i64)),(33,.sc (.int .i64))],[.arr [.int .i64,.int .i64,.int .i64],.arr [.int .i64],.arr [.int .i64]]⟩ (fun ((none_,t,t1,o,a,b):Bool×Int×Int×(List (Int×Int×Int))×List Int×List Int)=>(t-t1).toNat+1) 0 ⟨[.bool,.list [.int .i64,.int .i64,.int .i64],.list [.int .i64],.list [.int .i64]],[(3,.full 0),(4,.full 1),(5,.full 2),(6,.sc .bool)],[.arr [.int .i64,.int .i64,.int .i64],.arr [.int .i64],.arr [.int .i64]]⟩ .u))) (.join ⟨[.list [.int .i64,.int .i64,.int .i64],.list [.int .i64],.list [.int .i64]],[(3,.full 0),(4,.full 1),(5,.full 2)],[.arr [.int .i64,.int .i64,.int .i64],.arr [.int .i64],.arr [.int .i64]]⟩ .u (.seq .u (.seq .u (.seq .u (.seq (.seq .u (.blk (.loop ⟨[.list [.int .i64],.list [.int .i64],.int .i64,.int .i64,.list [.int .i64,.int .i64,.int .i64],.list [.int .i64],.list [.int .i64]],[(3,.full 0),(9,.sc (.list [.int .i64])),(10,.sc (.list [.int .i64])),(11,.full 1),(12,.full 2),(84,.full 1),(85,.sc (.int .i64)),(86,.sc (.int .i64))],[.arr [.int .i64,.int .i64,.int .i64],.arr [.int .i64],.arr [.int .i64]]⟩ (fun ((lit,dist,t2,t3,list2,o1,c):List Int×List Int×Int×Int×(List (Int×Int×Int))×List Int×List Int)=>(t2-t3).toNat+1) 2 ⟨[.list [.int .i64],.list [.int .i64],.list [.int .i64,.int .i64,.int .i64],.list [.int .i64],.list [.int .i64]],[(3,.full 0),(9,.sc (.list [.int .i64])),(10,.sc (.list [.int .i64])),(11,.full 1),(12,.full 2)],[.arr [.int .i64,.int .i64,.int .i64],.arr [.int .i64],.arr [.int .i64]]⟩ .u))) (.seq .u (.seq .u (.seq .u (.seq .u (.seq .u (.seq .u (.seq .u (.seq (.seq .u (.blk (.loop ⟨[.list [.int .i64],.list [.int .i64],.list [.int .i64],.int .i64,.int .i64,.list [.int .i64,.int .i64,.int .i64],.list [.int .i64],.list [.int .i64],.int .i64,.list [.int .u8]],[(3,.full 0),(9,.sc (.list [.int .i64])),(10,.sc (.list [.int .i64])),(11,.full 1),(15,.full 2),(16,.ptr 3 0),(120,.sc (.list [.int .i64])),(121,.sc (.int .i64)),(122,.sc (.int .i64))],[.arr [.int .i64,.int .i64,.int .i64],.arr [.int .i64],.arr [.int .i64],.box [.full 4,.sc (.int .i64)],.arr [.int .u8]]⟩ (fun ((lit2,dist2,t4,t5,t6,list4,all1,meta_,o2,o3):List Int×List Int×List Int×Int×Int×(List (Int×Int×Int))×List Int×List Int×Int×List Int)=>(t5-t6).toNat+1) 4 ⟨[.list [.int .i64],.list [.int .i64],.list [.int .i64,.int .i64,.int .i64],.list [.int .i64],.list [.int .i64],.int .i64,.list [.int .u8]],[(3,.full 0),(9,.sc (.list [.int .i64])),(10,.sc (.list [.int .i64])),(11,.full 1),(15,.full 2),(16,.ptr 3 0)],[.arr [.int .i64,.int .i64,.int .i64],.arr [.int .i64],.arr [.int .i64],.box [.full 4,.sc (.int .i64)],.arr [.int .u8]]⟩ .u))) (.seq .u (.seq (.seq .u (.blk (.loop ⟨[.list [.int .i64],.list [.int .i64],.int .i64,.int .i64,.list [.int .i64,.int .i64,.int .i64],.list [.int .i64],.int .i64,.list [.int .i64],.list [.int .i64],.list [.int .u8]],[(3,.full 0),(9,.sc (.list [.int .i64])),(10,.sc (.list [.int .i64])),(15,.full 1),(16,.ptr 2 0),(19,.full 3),(135,.full 4),(136,.sc (.int .i64)),(137,.sc (.int .i64))],[.arr [.int .i64,.int .i64,.int .i64],.arr [.int .i64],.box [.full 5,.sc (.int .i64)],.arr [.int .i64],.arr [.int .i64],.arr [.int .u8]]⟩ (fun ((lit4,dist4,t7,t8,list6,meta_2,o6,m,o7,o8):List Int×List Int×Int×Int×(List (Int×Int×Int))×List Int×Int×List Int×List Int×List Int)=>(t7-t8).toNat+1) 6 ⟨[.list [.int .i64],.list [.int .i64],.list [.int .i64,.int .i64,.int .i64],.int .i64,.list [.int .u8]],[(3,.full 0),(9,.sc (.list [.int .i64])),(10,.sc (.list [.int .i64])),(16,.ptr 1 0)],[.arr [.int .i64,.int .i64,.int .i64],.box [.full 2,.sc (.int .i64)],.arr [.int .u8]]⟩ .u))) .u)))))))))))))))))))))) Za1.S d=Za1.S.F d:=fun _=>by kernel_rfl
theorem Za1.sound:Zah Tryz.prog C0 179 Za1.S:=sE Za5 Za1.ev (Zai ⟨Zb7.sound,Zcg.sound,Zff.sound,ZbR.sound,Zar.sound,Zcu.sound,ZbK.sound,Za0.sound,ZcM.sound,ZgB.sound,trivial⟩) Tryz.func179
def Za9.S:ZaI:=⟨0,[.sc .str],[],[.str],⟨[.str],.sc .str,[]⟩,
 fun (text:Str)=>Za9 text⟩
theorem Za9.ev:∀d,Za2 C0 (hnd (tab [(177,ZdN.S),(178,ZdT.S),(179,Za1.S)])) Tryz.f133 (.seq .u (.seq .u (.seq (.seq .u (.blk (.loop ⟨[.str,.int .i64,.int .i64,.list [.str]],[(3,.sc .str),(12,.full 0),(13,.sc (.int .i64)),(14,.sc (.int .i64))],[.arr [.str]]⟩ (fun ((best,t,t1,o):Str×Int×Int×List Str)=>(t-t1).toNat+1) 0 ⟨[.str],[(3,.sc .str)],[]⟩ .u))) .u))) Za9.S d=Za9.S.F d:=fun _=>by kernel_rfl
theorem Za9.sound:Zah Tryz.prog C0 133 Za9.S:=sE Za5 Za9.ev (Zai ⟨ZdN.sound,ZdT.sound,Za1.sound,trivial⟩) Tryz.func133
def ZbZ.S:ZaI:=⟨1,[.ptr 0 0,.full 1],[.box [.sc .str,.sc (.int .i64),.sc .bool],.arr [.int .u8]],[.str,.int .i64,.bool,.list [.int .u8]],⟨[.str,.int .i64,.bool,.list [.int .u8]],.full 1,[.box [.sc .str,.sc (.int .i64),.sc .bool],.arr [.int .u8]]⟩,
 fun ((s,at_,bad,out):Str×Int×Bool×List Int)=>ZbZ s at_ bad out⟩
theorem ZbZ.ev:∀d,Za2 C0 (hnd (tab [(170,Zfi.S),(175,Zez.S)])) Tryz.f171 (.seq .u (.seq .u (.seq .u (.join ⟨[.int .i64,.str,.int .i64,.bool,.list [.int .u8]],[(0,.ptr 0 0),(1,.full 1),(5,.sc (.int .i64))],[.box [.sc .str,.sc (.int .i64),.sc .bool],.arr [.int .u8]]⟩ .u (.seq (.seq .u (.blk (.loop ⟨[.int .i64,.int .i64,.str,.int .i64,.bool,.list [.int .u8]],[(0,.ptr 0 0),(1,.full 1),(5,.sc (.int .i64)),(7,.sc (.int .i64))],[.box [.sc .str,.sc (.int .i64),.sc .bool],.arr [.int .u8]]⟩ (fun ((n1,k,o3,o4,o5,out2):Int×Int×Str×Int×Bool×List Int)=>(n1-k).toNat+1) 0 ⟨[.str,.int .i64,.bool,.list [.int .u8]],[(1,.full 1)],[.box [.sc .str,.sc (.int .i64),.sc .bool],.arr [.int .u8]]⟩ (.seq (.seq (.reg [.bool] [(35,.sc .bool)]) .u) .u)))) .u))))) ZbZ.S d=ZbZ.S.F d:=fun _=>by kernel_rfl
theorem ZbZ.sound:Zah Tryz.prog C0 171 ZbZ.S:=sE Za5 ZbZ.ev (Zai ⟨Zfi.sound,Zez.sound,trivial⟩) Tryz.func171
end Ev
end
section
open Go Go.Proofs
set_option maxRecDepth 100000
namespace Ev
set_option maxHeartbeats 1000000
def Zas.S:ZaI:=⟨1,[.ptr 0 0],[.box [.sc .str,.sc (.int .i64),.sc .bool]],[.str,.int .i64,.bool],⟨[.list [.int .i64],.list [.int .i64],.str,.int .i64,.bool],.tup [.sc (.list [.int .i64]),.sc (.list [.int .i64])],[.box [.sc .str,.sc (.int .i64),.sc .bool]]⟩,
 fun ((s,at_,bad):Str×Int×Bool)=>Zas s at_ bad⟩
theorem Zas.ev:∀d,Za2 C0 (hnd (tab [(170,Zfi.S),(195,Zcn.S),(196,Zcq.S),(197,Zbn.S)])) Tryz.f174 (.seq .u (.seq .u (.join ⟨[.int .i64,.int .i64,.int .i64,.str,.int .i64,.bool],[(0,.ptr 0 0),(4,.sc (.int .i64)),(5,.sc (.int .i64)),(6,.sc (.int .i64))],[.box [.sc .str,.sc (.int .i64),.sc .bool]]⟩ (.seq (.reg [.bool] [(29,.sc .bool)]) .u) (.seq .u (.seq (.seq .u (.blk (.loop ⟨[.int .i64,.int .i64,.list [.int .i64],.int .i64,.int .i64,.str,.int .i64,.bool,.list [.int .i64]],[(0,.ptr 0 0),(4,.sc (.int .i64)),(5,.sc (.int .i64)),(7,.full 1),(38,.sc (.list [.int .i64])),(39,.sc (.int .i64)),(40,.sc (.int .i64))],[.box [.sc .str,.sc (.int .i64),.sc .bool],.arr [.int .i64]]⟩ (fun ((lit1,dist1,t,t1,t2,o3,o4,o5,meta_):Int×Int×List Int×Int×Int×Str×Int×Bool×List Int)=>(t1-t2).toNat+1) 0 ⟨[.int .i64,.int .i64,.str,.int .i64,.bool,.list [.int .i64]],[(0,.ptr 0 0),(4,.sc (.int .i64)),(5,.sc (.int .i64)),(7,.full 1)],[.box [.sc .str,.sc (.int .i64),.sc .bool],.arr [.int .i64]]⟩ .u))) (.seq (.seq (.reg [.bool] [(58,.sc .bool)]) .u) (.seq .u (.seq .u (.seq (.blk (.loop ⟨[.int .i64,.int .i64,.str,.int .i64,.bool,.map [.int .i64,.int .i64] [.int .i64],.list [.int .i64]],[(0,.ptr 0 0),(4,.sc (.int .i64)),(5,.sc (.int .i64)),(10,.map 1),(11,.full 2)],[.box [.sc .str,.sc (.int .i64),.sc .bool],.map [.int .i64,.int .i64] [.int .i64],.arr [.int .i64]]⟩ (fun ((lit3,dist3,o9,o10,o11,o12,all):Int×Int×Str×Int×Bool×(List ((Int×Int)×Int))×List Int)=>((w64 (lit3+dist3))-(all.length:Int)).toNat+1) 2 ⟨[.int .i64,.int .i64,.str,.int .i64,.bool,.list [.int .i64]],[(0,.ptr 0 0),(4,.sc (.int .i64)),(5,.sc (.int .i64)),(11,.full 1)],[.box [.sc .str,.sc (.int .i64),.sc .bool],.arr [.int .i64]]⟩ (.seq (.seq (.reg [.bool] [(77,.sc .bool)]) .u) (.blk (.seq .u (.seq .u (.join ⟨[.int .i64,.int .i64,.int .i64,.int .i64,.str,.int .i64,.bool,.map [.int .i64,.int .i64] [.int .i64],.list [.int .i64]],[(0,.ptr 0 0),(4,.sc (.int .i64)),(5,.sc (.int .i64)),(10,.map 1),(11,.full 2),(13,.sc (.int .i64)),(14,.sc (.int .i64))],[.box [.sc .str,.sc (.int .i64),.sc .bool],.map [.int .i64,.int .i64] [.int .i64],.arr [.int .i64]]⟩ .u (.seq .u (.blk (.loop ⟨[.int .i64,.int .i64,.int .i64,.int .i64,.int .i64,.str,.int .i64,.bool,.map [.int .i64,.int .i64] [.int .i64],.list [.int .i64]],[(0,.ptr 0 0),(4,.sc (.int .i64)),(5,.sc (.int .i64)),(10,.map 1),(11,.full 2),(13,.sc (.int .i64)),(112,.sc (.int .i64)),(113,.sc (.int .i64))],[.box [.sc .str,.sc (.int .i64),.sc .bool],.map [.int .i64,.int .i64] [.int .i64],.arr [.int .i64]]⟩ (fun ((lit5,dist5,again_1,t3,t4,o17,o18,o19,o20,all2):Int×Int×Int×Int×Int×Str×Int×Bool×(List ((Int×Int)×Int))×List Int)=>(t3-t4).toNat+1) 5 ⟨[.int .i64,.int .i64,.str,.int .i64,.bool,.map [.int .i64,.int .i64] [.int .i64],.list [.int .i64]],[(0,.ptr 0 0),(4,.sc (.int .i64)),(5,.sc (.int .i64)),(10,.map 1),(11,.full 2)],[.box [.sc .str,.sc (.int .i64),.sc .bool],.map [.int .i64,.int .i64] [.int .i64],.arr [.int .i64]]⟩ .u)))))))))) (.seq (.seq (.reg [.bool] [(131,.sc .bool)]) .u) .u)))))))))) Zas.S d=Zas.S.F d:=fun _=>by kernel_rfl
theorem Zas.sound:Zah Tryz.prog C0 174 Zas.S:=sE Za5 Zas.ev (Zai ⟨Zfi.sound,Zcn.sound,Zcq.sound,Zbn.sound,trivial⟩) Tryz.func174
def Zcs.S:ZaI:=⟨1,[.ptr 0 0,.full 1,.sc (.list [.int .i64]),.sc (.list [.int .i64])],[.box [.sc .str,.sc (.int .i64),.sc .bool],.arr [.int .u8]],[.list [.int .i64],.list [.int .i64],.str,.int .i64,.bool,.list [.int .u8]],⟨[.str,.int .i64,.bool,.list [.int .u8]],.full 1,[.box [.sc .str,.sc (.int .i64),.sc .bool],.arr [.int .u8]]⟩,
 fun ((lit,dist,s,at_,bad,out):List Int×List Int×Str×Int×Bool×List Int)=>Zcs lit dist s at_ bad out⟩
theorem Zcs.ev:∀d,Za2 C0 (hnd (tab [(170,Zfi.S),(195,Zcn.S),(196,Zcq.S),(197,Zbn.S),(198,Zb7.S),(199,Zcg.S),(200,add.S)])) Tryz.f173 (.seq .u (.seq (.seq (.reg [.bool] [(29,.sc .bool)]) .u) (.seq .u (.seq (.blk (.loopS ⟨[.str,.int .i64,.bool,.list [.int .u8],.map [.int .i64,.int .i64] [.int .i64],.map [.int .i64,.int .i64] [.int .i64]],[(0,.ptr 0 0),(1,.full 1),(9,.map 2),(10,.map 3)],[.box [.sc .str,.sc (.int .i64),.sc .bool],.arr [.int .u8],.map [.int .i64,.int .i64] [.int .i64],.map [.int .i64,.int .i64] [.int .i64]]⟩ (fun ((o,o1,o2,out1,o3,o4):Str×Int×Bool×List Int×(List ((Int×Int)×Int))×List ((Int×Int)×Int))=>100000) 0 ⟨[.str,.int .i64,.bool,.list [.int .u8]],[(1,.full 1)],[.box [.sc .str,.sc (.int .i64),.sc .bool],.arr [.int .u8]]⟩ (.seq (.seq (.reg [.bool] [(47,.sc .bool)]) .u) (.blk (.seq .u (.seq (.blk (.seq (.reg [.bool] [(51,.sc .bool)]) .u)) (.seq (.cm [(1,[0]),(2,[0]),(3,[0]),(4,[0]),(5,[0])]) (.seq .u (.seq .u (.seq (.cm [(1,[0]),(2,[0]),(3,[0]),(4,[0])]) (.seq .u (.seq (.seq (.reg [.bool] [(129,.sc .bool)]) .u) .u)))))))))))) .u)))) Zcs.S d=Zcs.S.F d:=fun _=>by kernel_rfl
theorem Zcs.sound:Zah Tryz.prog C0 173 Zcs.S:=sE Za5 Zcs.ev (Zai ⟨Zfi.sound,Zcn.sound,Zcq.sound,Zbn.sound,Zb7.sound,Zcg.sound,add.sound,trivial⟩) Tryz.func173
def Za7.S:ZaI:=⟨1,[.ptr 0 0,.full 1,.sc (.list [.int .i64]),.sc (.list [.int .i64])],[.box [.sc .str,.sc (.int .i64),.sc .bool],.arr [.int .u8]],[.list [.int .i64],.list [.int .i64],.str,.int .i64,.bool,.list [.int .u8]],⟨[.str,.int .i64,.bool],.undef,[.box [.sc .str,.sc (.int .i64),.sc .bool]]⟩,
 fun ((lit,dist,s,at_,bad,out):List Int×List Int×Str×Int×Bool×List Int)=>Za7 lit dist s at_ bad out⟩
theorem Za7.ev:∀d,Za2 C0 (hnd (tab [(170,Zfi.S),(195,Zcn.S),(196,Zcq.S),(197,Zbn.S),(198,Zb7.S),(199,Zcg.S),(200,add.S)])) Tryz.f173 (.seq .u (.seq (.seq (.reg [.bool] [(29,.sc .bool)]) .u) (.seq .u (.seq (.blk (.loopS ⟨[.str,.int .i64,.bool,.list [.int .u8],.map [.int .i64,.int .i64] [.int .i64],.map [.int .i64,.int .i64] [.int .i64]],[(0,.ptr 0 0),(1,.full 1),(9,.map 2),(10,.map 3)],[.box [.sc .str,.sc (.int .i64),.sc .bool],.arr [.int .u8],.map [.int .i64,.int .i64] [.int .i64],.map [.int .i64,.int .i64] [.int .i64]]⟩ (fun ((o,o1,o2,out1,o3,o4):Str×Int×Bool×List Int×(List ((Int×Int)×Int))×List ((Int×Int)×Int))=>100000) 0 ⟨[.str,.int .i64,.bool,.list [.int .u8]],[(1,.full 1)],[.box [.sc .str,.sc (.int .i64),.sc .bool],.arr [.int .u8]]⟩ (.seq (.seq (.reg [.bool] [(47,.sc .bool)]) .u) (.blk (.seq .u (.seq (.blk (.seq (.reg [.bool] [(51,.sc .bool)]) .u)) (.seq (.cm [(1,[0]),(2,[0]),(3,[0]),(4,[0]),(5,[0])]) (.seq .u (.seq .u (.seq (.cm [(1,[0]),(2,[0]),(3,[0]),(4,[0])]) (.seq .u (.seq (.seq (.reg [.bool] [(129,.sc .bool)]) .u) .u)))))))))))) .u)))) Za7.S d=Za7.S.F d:=fun _=>by kernel_rfl
theorem Za7.sound:Zah Tryz.prog C0 173 Za7.S:=sE Za5 Za7.ev (Zai ⟨Zfi.sound,Zcn.sound,Zcq.sound,Zbn.sound,Zb7.sound,Zcg.sound,add.sound,trivial⟩) Tryz.func173
def Zbq.S:ZaI:=⟨0,[.sc .str],[],[.str],⟨[.str,.int .i64,.bool],.tup [.sc .str,.sc (.int .i64),.sc .bool],[]⟩,
 fun (text:Str)=>Zbq text⟩
theorem Zbq.ev:∀d,Za2 C0 (hnd (tab [(169,Zi0.S),(170,Zfi.S),(171,ZbZ.S),(172,Zbp.S),(173,Zcs.S),(173,Za7.S),(174,Zas.S),(175,Zez.S)])) Tryz.f130 (.seq .u (.seq .u (.seq .u (.seq .u (.seq (.seq .u (.blk (.loopS ⟨[.bool,.str,.int .i64,.bool,.list [.int .u8]],[(5,.ptr 0 0),(6,.full 1),(7,.sc .bool)],[.box [.sc .str,.sc (.int .i64),.sc .bool],.arr [.int .u8]]⟩ (fun ((last,o,o1,o2,out):Bool×Str×Int×Bool×List Int)=>100000) 0 ⟨[.str,.int .i64,.bool,.list [.int .u8]],[(5,.ptr 0 0),(6,.full 1)],[.box [.sc .str,.sc (.int .i64),.sc .bool],.arr [.int .u8]]⟩ .u))) .u))))) Zbq.S d=Zbq.S.F d:=fun _=>by kernel_rfl
theorem Zbq.sound:Zah Tryz.prog C0 130 Zbq.S:=sE Za5 Zbq.ev (Zai ⟨Zi0.sound,Zfi.sound,ZbZ.sound,Zbp.sound,Zcs.sound,Za7.sound,Zas.sound,Zez.sound,trivial⟩) Tryz.func130
def Zpb.S:ZaI:=⟨0,[.sc (.int .i64),.sc (.int .i64)],[],[.int .i64,.int .i64],⟨[.int .i64],.sc (.int .i64),[]⟩,
 fun ((year,month):Int×Int)=>Zpb year month⟩
theorem Zpb.ev:∀d,Za2 C0 (hnd (tab [])) Tryz.f147 (.seq .u (.seq (.seq .u (.blk (.join ⟨[.int .i64,.int .i64,.bool],[(0,.sc (.int .i64)),(5,.sc (.int .i64)),(6,.sc .bool)],[]⟩ .u (.cond .u (.seq .u (.cond (.seq (.seq (.reg [.bool] [(25,.sc .bool)]) .u) .u) .u)))))) .u)) Zpb.S d=Zpb.S.F d:=fun _=>by kernel_rfl
theorem Zpb.sound:Zah Tryz.prog C0 147 Zpb.S:=sE Za5 Zpb.ev (Zai trivial) Tryz.func147
def ZdJ.S:ZaI:=⟨0,[.agg [.sc (.int .i64),.sc (.int .i64),.sc (.int .i64),.sc (.int .i64),.sc (.int .i64),.sc (.int .i64)]],[],[.int .i64,.int .i64,.int .i64,.int .i64,.int .i64,.int .i64],⟨[.bool],.sc .bool,[]⟩,
 fun ((y,mo,d,h,mi,sec):Int×Int×Int×Int×Int×Int)=>ZdJ y mo d h mi sec⟩
theorem ZdJ.ev:∀d,Za2 C0 (hnd (tab [(146,ZbA.S),(147,Zpb.S)])) Tryz.f104 (.seq .u (.seq (.reg [.bool] [(2,.sc .bool)]) .u)) ZdJ.S d=ZdJ.S.F d:=fun _=>by kernel_rfl
theorem ZdJ.sound:Zah Tryz.prog C0 104 ZdJ.S:=sE Za5 ZdJ.ev (Zai ⟨ZbA.sound,Zpb.sound,trivial⟩) Tryz.func104
def Zcx.S:ZaI:=⟨0,[.agg [.sc (.int .i64),.sc (.int .i64),.sc (.int .i64),.sc (.int .i64),.sc (.int .i64),.sc (.int .i64)]],[],[.int .i64,.int .i64,.int .i64,.int .i64,.int .i64,.int .i64],⟨[.int .i64],.sc (.int .i64),[]⟩,
 fun ((y,mo,d,h,mi,sec):Int×Int×Int×Int×Int×Int)=>Zcx y mo d h mi sec⟩
theorem Zcx.ev:∀d,Za2 C0 (hnd (tab [(104,ZdJ.S)])) Tryz.f168 .u Zcx.S d=Zcx.S.F d:=fun _=>by kernel_rfl
theorem Zcx.sound:Zah Tryz.prog C0 168 Zcx.S:=sE Za5 Zcx.ev (Zai ⟨ZdJ.sound,trivial⟩) Tryz.func168
def ZdO.S:ZaI:=⟨0,[.sc (.int .i64)],[],[.int .i64],⟨[.int .i64,.int .i64,.int .i64,.int .i64,.int .i64,.int .i64,.bool],.tup [.agg [.sc (.int .i64),.sc (.int .i64),.sc (.int .i64),.sc (.int .i64),.sc (.int .i64),.sc (.int .i64)],.sc .bool],[]⟩,
 fun (n:Int)=>ZdO n⟩
theorem ZdO.ev:∀d,Za2 C0 (hnd (tab [(168,Zcx.S)])) Tryz.f129 .u ZdO.S d=ZdO.S.F d:=fun _=>by kernel_rfl
theorem ZdO.sound:Zah Tryz.prog C0 129 ZdO.S:=sE Za5 ZdO.ev (Zai ⟨Zcx.sound,trivial⟩) Tryz.func129
def ZbG.S:ZaI:=⟨0,[.agg [.sc .str,.sc (.int .i64),.sc (.int .i64),.sc (.int .i64),.sc (.int .i64),.sc (.int .i64),.sc (.int .i64),.sc .str]],[],[.str,.int .i64,.int .i64,.int .i64,.int .i64,.int .i64,.int .i64,.str],⟨[.bool],.sc .bool,[]⟩,
 fun ((name,y,mo,d,h,mi,sec,text):Str×Int×Int×Int×Int×Int×Int×Str)=>ZbG name y mo d h mi sec text⟩
theorem ZbG.ev:∀d,Za2 C0 (hnd (tab [(91,ZaO.S),(104,ZdJ.S)])) Tryz.f99 (.seq .u (.seq (.reg [.bool] [(2,.sc .bool)]) .u)) ZbG.S d=ZbG.S.F d:=fun _=>by kernel_rfl
theorem ZbG.sound:Zah Tryz.prog C0 99 ZbG.S:=sE Za5 ZbG.ev (Zai ⟨ZaO.sound,ZdJ.sound,trivial⟩) Tryz.func99
def ZbC.S:ZaI:=⟨0,[.sc (.int .i64),.sc (.int .i64)],[],[.int .i64,.int .i64],⟨[.str],.sc .str,[]⟩,
 fun ((n,bytes):Int×Int)=>ZbC n bytes⟩
theorem ZbC.ev:∀d,Za2 C0 (hnd (tab [])) Tryz.f132 (.seq .u (.seq .u (.seq (.seq .u (.blk (.loop ⟨[.int .i64,.int .i64,.int .i64,.list [.int .u8]],[(0,.sc (.int .i64)),(5,.full 0),(7,.sc (.int .i64)),(8,.sc (.int .i64))],[.arr [.int .u8]]⟩ (fun ((n1,t,t1,out):Int×Int×Int×List Int)=>(t-t1).toNat+1) 0 ⟨[.list [.int .u8]],[(5,.full 0)],[.arr [.int .u8]]⟩ .u))) .u))) ZbC.S d=ZbC.S.F d:=fun _=>by kernel_rfl
theorem ZbC.sound:Zah Tryz.prog C0 132 ZbC.S:=sE Za5 ZbC.ev (Zai trivial) Tryz.func132
def Zbb.S:ZaI:=⟨0,[.sc .str,.sc (.int .i64),.sc (.int .i64)],[],[.str,.int .i64,.int .i64],⟨[.int .i64],.sc (.int .i64),[]⟩,
 fun ((s,at_,bytes):Str×Int×Int)=>Zbb s at_ bytes⟩
theorem Zbb.ev:∀d,Za2 C0 (hnd (tab [])) Tryz.f128 (.seq .u (.seq .u (.seq (.seq .u (.blk (.loop ⟨[.str,.int .i64,.int .i64,.int .i64],[(0,.sc .str),(1,.sc (.int .i64)),(7,.sc (.int .i64)),(8,.sc (.int .i64))],[]⟩ (fun ((s1,at_1,n,k):Str×Int×Int×Int)=>(k-0).toNat+2) 0 ⟨[.int .i64],[(7,.sc (.int .i64))],[]⟩ .u))) .u))) Zbb.S d=Zbb.S.F d:=fun _=>by kernel_rfl
theorem Zbb.sound:Zah Tryz.prog C0 128 Zbb.S:=sE Za5 Zbb.ev (Zai trivial) Tryz.func128
def Zej.S:ZaI:=⟨0,[.agg [.sc .str,.sc (.int .i64),.sc (.int .i64),.sc (.int .i64),.sc (.int .i64),.sc (.int .i64),.sc (.int .i64),.sc .str],.sc (.int .i64),.sc (.int .i64)],[],[.str,.int .i64,.int .i64,.int .i64,.int .i64,.int .i64,.int .i64,.str,.int .i64,.int .i64],⟨[.str],.sc .str,[]⟩,
 fun ((name,y,mo,d,h,mi,sec,text,method,packed):Str×Int×Int×Int×Int×Int×Int×Str×Int×Int)=>Zej name y mo d h mi sec text method packed⟩
theorem Zej.ev:∀d,Za2 C0 (hnd (tab [(132,ZbC.S),(168,Zcx.S),(176,crc.S)])) Tryz.f131 .u Zej.S d=Zej.S.F d:=fun _=>by kernel_rfl
theorem Zej.sound:Zah Tryz.prog C0 131 Zej.S:=sE Za5 Zej.ev (Zai ⟨ZbC.sound,Zcx.sound,crc.sound,trivial⟩) Tryz.func131
def ZdQ.S:ZaI:=⟨0,[.agg [.sc .str,.sc (.int .i64),.sc (.int .i64),.sc (.int .i64),.sc (.int .i64),.sc (.int .i64),.sc (.int .i64),.sc .str]],[],[.str,.int .i64,.int .i64,.int .i64,.int .i64,.int .i64,.int .i64,.str],⟨[.str],.sc .str,[]⟩,
 fun ((name,y,mo,d,h,mi,sec,text):Str×Int×Int×Int×Int×Int×Int×Str)=>ZdQ name y mo d h mi sec text⟩
theorem ZdQ.ev:∀d,Za2 C0 (hnd (tab [(99,ZbG.S),(131,Zej.S),(133,Za9.S)])) Tryz.f80 .u ZdQ.S d=ZdQ.S.F d:=fun _=>by kernel_rfl
theorem ZdQ.sound:Zah Tryz.prog C0 80 ZdQ.S:=sE Za5 ZdQ.ev (Zai ⟨ZbG.sound,Zej.sound,Za9.sound,trivial⟩) Tryz.func80
def ZdR.S:ZaI:=⟨0,[.sc .str],[],[.str],⟨[.str,.int .i64,.int .i64,.int .i64,.int .i64,.int .i64,.int .i64,.str,.int .i64,.bool],.tup [.agg [.sc .str,.sc (.int .i64),.sc (.int .i64),.sc (.int .i64),.sc (.int .i64),.sc (.int .i64),.sc (.int .i64),.sc .str],.sc (.int .i64),.sc .bool],[]⟩,
 fun (text:Str)=>ZdR text⟩
theorem ZdR.ev:∀d,Za2 C0 (hnd (tab [(99,ZbG.S),(128,Zbb.S),(129,ZdO.S),(130,Zbq.S),(131,Zej.S)])) Tryz.f76 (.seq .u (.seq .u (.seq .u (.seq .u (.seq (.seq (.reg [.bool] [(36,.sc .bool)]) .u) (.seq .u (.seq .u (.joinS ⟨[.str,.int .i64,.int .i64,.int .i64,.str,.int .i64,.int .i64,.int .i64,.int .i64,.int .i64,.int .i64,.str,.str,.int .i64,.int .i64,.int .i64,.int .i64,.int .i64,.int .i64,.str],[(0,.sc .str),(2,.ptr 0 0),(5,.sc (.int .i64)),(6,.sc (.int .i64)),(7,.sc (.int .i64)),(9,.ptr 1 0)],[.box [.sc .str,.sc (.int .i64),.sc (.int .i64),.sc (.int .i64),.sc (.int .i64),.sc (.int .i64),.sc (.int .i64),.sc .str],.box [.sc .str,.sc (.int .i64),.sc (.int .i64),.sc (.int .i64),.sc (.int .i64),.sc (.int .i64),.sc (.int .i64),.sc .str]]⟩ (.seq .u (.blk (.seq .u (.cond .u (.seq .u (.cond (.seq .u (.seq (.seq (.reg [.bool] [(74,.sc .bool)]) .u) .u)) .u)))))) (.seq (.seq (.reg [.bool] [(89,.sc .bool)]) .u) .u))))))))) ZdR.S d=ZdR.S.F d:=fun _=>by kernel_rfl
theorem ZdR.sound:Zah Tryz.prog C0 76 ZdR.S:=sE Za5 ZdR.ev (Zai ⟨ZbG.sound,Zbb.sound,ZdO.sound,Zbq.sound,Zej.sound,trivial⟩) Tryz.func76
def joinS.S:ZaI:=Zt5
theorem joinS.sound:Zah Tryz.prog C0 81 joinS.S:=Zvf Tryz.lays156 Tryz.Builder_Extra_156 Tryz.func81 (by kernel_rfl) (by kernel_rfl)
def Zbj.S:ZaI:=⟨0,[.sc (.list [.str,.int .i64,.int .i64,.int .i64,.int .i64,.int .i64,.int .i64,.str])],[],[.list [.str,.int .i64,.int .i64,.int .i64,.int .i64,.int .i64,.int .i64,.str]],⟨[.list [.str]],.full 0,[.arr [.str]]⟩,
 fun (list:List (Str×Int×Int×Int×Int×Int×Int×Str))=>Zbj list⟩
theorem Zbj.ev:∀d,Za2 C0 (hnd (tab [])) Tryz.f93 (.seq .u (.seq .u (.seq (.seq .u (.blk (.loop ⟨[.list [.str,.int .i64,.int .i64,.int .i64,.int .i64,.int .i64,.int .i64,.str],.int .i64,.int .i64,.list [.str]],[(3,.full 0),(7,.sc (.list [.str,.int .i64,.int .i64,.int .i64,.int .i64,.int .i64,.int .i64,.str])),(8,.sc (.int .i64)),(9,.sc (.int .i64))],[.arr [.str]]⟩ (fun ((t,t1,t2,out):(List (Str×Int×Int×Int×Int×Int×Int×Str))×Int×Int×List Str)=>(t1-t2).toNat+1) 0 ⟨[.list [.str]],[(3,.full 0)],[.arr [.str]]⟩ .u))) .u))) Zbj.S d=Zbj.S.F d:=fun _=>by kernel_rfl
theorem Zbj.sound:Zah Tryz.prog C0 93 Zbj.S:=sE Za5 Zbj.ev (Zai trivial) Tryz.func93
def Zeo.S:ZaI:=⟨0,[.sc (.list [.str,.int .i64,.int .i64,.int .i64,.int .i64,.int .i64,.int .i64,.str])],[],[.list [.str,.int .i64,.int .i64,.int .i64,.int .i64,.int .i64,.int .i64,.str]],⟨[.bool],.sc .bool,[]⟩,
 fun (list:List (Str×Int×Int×Int×Int×Int×Int×Str))=>Zeo list⟩
theorem Zeo.ev:∀d,Za2 C0 (hnd (tab [(92,ZcQ.S),(93,Zbj.S),(99,ZbG.S)])) Tryz.f77 (.seq .u (.seq (.seq .u (.blk (.loopS ⟨[.list [.str,.int .i64,.int .i64,.int .i64,.int .i64,.int .i64,.int .i64,.str],.list [.str,.int .i64,.int .i64,.int .i64,.int .i64,.int .i64,.int .i64,.str],.int .i64,.int .i64],[(0,.sc (.list [.str,.int .i64,.int .i64,.int .i64,.int .i64,.int .i64,.int .i64,.str])),(5,.sc (.list [.str,.int .i64,.int .i64,.int .i64,.int .i64,.int .i64,.int .i64,.str])),(6,.sc (.int .i64)),(7,.sc (.int .i64))],[]⟩ (fun ((list1,t,t1,t2):(List (Str×Int×Int×Int×Int×Int×Int×Str))×(List (Str×Int×Int×Int×Int×Int×Int×Str))×Int×Int)=>(t1-t2).toNat+1) 0 ⟨[.list [.str,.int .i64,.int .i64,.int .i64,.int .i64,.int .i64,.int .i64,.str]],[(0,.sc (.list [.str,.int .i64,.int .i64,.int .i64,.int .i64,.int .i64,.int .i64,.str]))],[]⟩ .u))) .u)) Zeo.S d=Zeo.S.F d:=fun _=>by kernel_rfl
theorem Zeo.sound:Zah Tryz.prog C0 77 Zeo.S:=sE Za5 Zeo.ev (Zai ⟨ZcQ.sound,Zbj.sound,ZbG.sound,trivial⟩) Tryz.func77
def ZbL.S:ZaI:=⟨0,[.sc (.list [.str])],[],[.list [.str]],⟨[.str],.sc .str,[]⟩,
 fun (locals:List Str)=>ZbL locals⟩
theorem ZbL.ev:∀d,Za2 C0 (hnd (tab [(128,Zbb.S),(132,ZbC.S)])) Tryz.f78 (.seq .u (.seq .u (.seq .u (.seq (.seq .u (.blk (.loop ⟨[.list [.str],.str,.int .i64,.list [.str],.int .i64,.int .i64],[(0,.sc (.list [.str])),(3,.sc .str),(4,.sc (.int .i64)),(9,.sc (.list [.str])),(10,.sc (.int .i64)),(11,.sc (.int .i64))],[]⟩ (fun ((locals1,heads,at_,t,t1,t2):List Str×Str×Int×List Str×Int×Int)=>(t1-t2).toNat+1) 0 ⟨[.list [.str],.str,.int .i64],[(0,.sc (.list [.str])),(3,.sc .str),(4,.sc (.int .i64))],[]⟩ .u))) .u)))) ZbL.S d=ZbL.S.F d:=fun _=>by kernel_rfl
theorem ZbL.sound:Zah Tryz.prog C0 78 ZbL.S:=sE Za5 ZbL.ev (Zai ⟨Zbb.sound,ZbC.sound,trivial⟩) Tryz.func78
def Za6.S:ZaI:=⟨0,[.sc (.list [.str,.int .i64,.int .i64,.int .i64,.int .i64,.int .i64,.int .i64,.str])],[],[.list [.str,.int .i64,.int .i64,.int .i64,.int .i64,.int .i64,.int .i64,.str]],⟨[.str],.sc .str,[]⟩,
 fun (list:List (Str×Int×Int×Int×Int×Int×Int×Str))=>Za6 list⟩
theorem Za6.ev:∀d,Za2 C0 (hnd (tab [(77,Zeo.S),(78,ZbL.S),(80,ZdQ.S),(81,joinS.S)])) Tryz.f27 (.seq .u (.seq .u (.seq .u (.seq (.seq .u (.blk (.loop ⟨[.list [.str,.int .i64,.int .i64,.int .i64,.int .i64,.int .i64,.int .i64,.str],.int .i64,.int .i64,.list [.str]],[(3,.full 0),(10,.sc (.list [.str,.int .i64,.int .i64,.int .i64,.int .i64,.int .i64,.int .i64,.str])),(11,.sc (.int .i64)),(12,.sc (.int .i64))],[.arr [.str]]⟩ (fun ((t,t1,t2,locals):(List (Str×Int×Int×Int×Int×Int×Int×Str))×Int×Int×List Str)=>(t1-t2).toNat+1) 0 ⟨[.list [.str]],[(3,.full 0)],[.arr [.str]]⟩ .u))) .u)))) Za6.S d=Za6.S.F d:=fun _=>by kernel_rfl
theorem Za6.sound:Zah Tryz.prog C0 27 Za6.S:=sE Za5 Za6.ev (Zai ⟨Zeo.sound,ZbL.sound,ZdQ.sound,joinS.sound,trivial⟩) Tryz.func27
def ZaA.S:ZaI:=⟨0,[.sc .str],[],[.str],⟨[.bool,.list [.str,.int .i64,.int .i64,.int .i64,.int .i64,.int .i64,.int .i64,.str]],.tup [.full 0,.sc .bool],[.arr [.str,.int .i64,.int .i64,.int .i64,.int .i64,.int .i64,.int .i64,.str]]⟩,
 fun (text:Str)=>ZaA text⟩
theorem ZaA.ev:∀d,Za2 C0 (hnd (tab [(76,ZdR.S),(77,Zeo.S),(78,ZbL.S)])) Tryz.f25 (.seq .u (.seq .u (.seq .u (.seq .u (.seq (.blk (.loop ⟨[.str,.list [.str,.int .i64,.int .i64,.int .i64,.int .i64,.int .i64,.int .i64,.str],.list [.str]],[(4,.full 0),(5,.full 1),(6,.sc .str)],[.arr [.str,.int .i64,.int .i64,.int .i64,.int .i64,.int .i64,.int .i64,.str],.arr [.str]]⟩ (fun ((rest,out,locals):Str×(List (Str×Int×Int×Int×Int×Int×Int×Str))×List Str)=>(6-(out.length:Int)).toNat+1) 0 ⟨[.str,.list [.str,.int .i64,.int .i64,.int .i64,.int .i64,.int .i64,.int .i64,.str],.list [.str]],[(4,.full 0),(5,.full 1),(6,.sc .str)],[.arr [.str,.int .i64,.int .i64,.int .i64,.int .i64,.int .i64,.int .i64,.str],.arr [.str]]⟩ .u)) (.seq (.seq (.reg [.bool] [(45,.sc .bool)]) .u) .u)))))) ZaA.S d=ZaA.S.F d:=fun _=>by kernel_rfl
theorem ZaA.sound:Zah Tryz.prog C0 25 ZaA.S:=sE Za5 ZaA.ev (Zai ⟨ZdR.sound,Zeo.sound,ZbL.sound,trivial⟩) Tryz.func25
def ZdM.S:ZaI:=⟨0,[.sc .str],[],[.str],⟨[.list [.str]],.full 0,[.arr [.str]]⟩,
 fun (text:Str)=>ZdM text⟩
theorem ZdM.ev:∀d,Za2 C0 (hnd (tab [(25,ZaA.S),(93,Zbj.S)])) Tryz.f36 .u ZdM.S d=ZdM.S.F d:=fun _=>by kernel_rfl
theorem ZdM.sound:Zah Tryz.prog C0 36 ZdM.S:=sE Za5 ZdM.ev (Zai ⟨ZaA.sound,Zbj.sound,trivial⟩) Tryz.func36
def Zbm.S:ZaI:=⟨0,[.sc .str,.sc .str],[],[.str,.str],⟨[.str,.bool],.tup [.sc .str,.sc .bool],[]⟩,
 fun ((text,name):Str×Str)=>Zbm text name⟩
theorem Zbm.ev:∀d,Za2 C0 (hnd (tab [(25,ZaA.S)])) Tryz.f32 (.seq .u (.seq .u (.seq (.seq .u (.blk (.loopS ⟨[.str,.int .i64,.int .i64,.list [.str,.int .i64,.int .i64,.int .i64,.int .i64,.int .i64,.int .i64,.str]],[(1,.sc .str),(15,.full 0),(16,.sc (.int .i64)),(17,.sc (.int .i64))],[.arr [.str,.int .i64,.int .i64,.int .i64,.int .i64,.int .i64,.int .i64,.str]]⟩ (fun ((name1,t,t1,o):Str×Int×Int×List (Str×Int×Int×Int×Int×Int×Int×Str))=>(t-t1).toNat+1) 0 ⟨[],[],[]⟩ .u))) .u))) Zbm.S d=Zbm.S.F d:=fun _=>by kernel_rfl
theorem Zbm.sound:Zah Tryz.prog C0 32 Zbm.S:=sE Za5 Zbm.ev (Zai ⟨ZaA.sound,trivial⟩) Tryz.func32
def ZcZ.S:ZaI:=⟨0,[.full 0,.agg [.sc .str,.sc (.int .i64),.sc (.int .i64),.sc (.int .i64),.sc (.int .i64),.sc (.int .i64),.sc (.int .i64),.sc .str]],[.arr [.str,.int .i64,.int .i64,.int .i64,.int .i64,.int .i64,.int .i64,.str]],[.str,.int .i64,.int .i64,.int .i64,.int .i64,.int .i64,.int .i64,.str,.list [.str,.int .i64,.int .i64,.int .i64,.int .i64,.int .i64,.int .i64,.str]],⟨[.int .i64,.list [.str,.int .i64,.int .i64,.int .i64,.int .i64,.int .i64,.int .i64,.str]],.tup [.full 0,.sc (.int .i64)],[.arr [.str,.int .i64,.int .i64,.int .i64,.int .i64,.int .i64,.int .i64,.str]]⟩,
 fun ((name,y,mo,d,h,mi,sec,text,list):Str×Int×Int×Int×Int×Int×Int×Str×List (Str×Int×Int×Int×Int×Int×Int×Str))=>ZcZ name y mo d h mi sec text list⟩
theorem ZcZ.ev:∀d,Za2 C0 (hnd (tab [(92,ZcQ.S),(93,Zbj.S),(99,ZbG.S)])) Tryz.f73 .u ZcZ.S d=ZcZ.S.F d:=fun _=>by kernel_rfl
theorem ZcZ.sound:Zah Tryz.prog C0 73 ZcZ.S:=sE Za5 ZcZ.ev (Zai ⟨ZcQ.sound,Zbj.sound,ZbG.sound,trivial⟩) Tryz.func73
def ZkO.S:ZaI:=⟨1,[.agg [.sc .str,.sc (.int .i64),.sc (.int .i64),.sc (.int .i64),.sc (.int .i64),.sc (.int .i64),.sc (.int .i64),.sc .str],.ptr 0 0],[.box [.sc .str]],[.str,.int .i64,.int .i64,.int .i64,.int .i64,.int .i64,.int .i64,.str,.str],⟨[.bool,.str],.sc .bool,[.box [.sc .str]]⟩,
 fun ((ename,ey,emo,ed,eh,emi,esec,etext,name):Str×Int×Int×Int×Int×Int×Int×Str×Str)=>ZkO ename ey emo ed eh emi esec etext name⟩
theorem ZkO.ev:∀d,Za2 C0 (hnd (tab [])) Tryz.f138 .u ZkO.S d=ZkO.S.F d:=fun _=>by kernel_rfl
theorem ZkO.sound:Zah Tryz.prog C0 138 ZkO.S:=sE Za5 ZkO.ev (Zai trivial) Tryz.func138
end Ev
end
section
open Go Go.Proofs
set_option maxRecDepth 100000
namespace Ev
set_option maxHeartbeats 1000000
def Za8.S:ZaI:=⟨1,[.sc (.list [.str,.int .i64,.int .i64,.int .i64,.int .i64,.int .i64,.int .i64,.str]),.fn 138 [] [.ptr 0 0]],[.box [.sc .str]],[.list [.str,.int .i64,.int .i64,.int .i64,.int .i64,.int .i64,.int .i64,.str],.str],⟨[.int .i64,.str],.sc (.int .i64),[.box [.sc .str]]⟩,
 fun ((list,name):(List (Str×Int×Int×Int×Int×Int×Int×Str))×Str)=>Za8 list name⟩
theorem Za8.ev:∀d,Za2 C0 (hnd (tab [(138,ZkO.S)])) Tryz.f137 (.seq .u (.seq (.seq .u (.blk (.loopS ⟨[.list [.str,.int .i64,.int .i64,.int .i64,.int .i64,.int .i64,.int .i64,.str],.int .i64,.int .i64,.str],[(0,.sc (.list [.str,.int .i64,.int .i64,.int .i64,.int .i64,.int .i64,.int .i64,.str])),(1,.fn 138 [] [.ptr 0 0]),(7,.sc (.int .i64)),(8,.sc (.int .i64))],[.box [.sc .str]]⟩ (fun ((s,t,t1,o):(List (Str×Int×Int×Int×Int×Int×Int×Str))×Int×Int×Str)=>(t-t1).toNat+1) 0 ⟨[.str],[],[.box [.sc .str]]⟩ .u))) .u)) Za8.S d=Za8.S.F d:=fun _=>by kernel_rfl
theorem Za8.sound:Zah Tryz.prog C0 137 Za8.S:=sE Za5 Za8.ev (Zai ⟨ZkO.sound,trivial⟩) Tryz.func137
def find.S:ZaI:=⟨0,[.sc (.list [.str,.int .i64,.int .i64,.int .i64,.int .i64,.int .i64,.int .i64,.str]),.sc .str],[],[.list [.str,.int .i64,.int .i64,.int .i64,.int .i64,.int .i64,.int .i64,.str],.str],⟨[.int .i64],.sc (.int .i64),[]⟩,
 fun ((list,name):(List (Str×Int×Int×Int×Int×Int×Int×Str))×Str)=>find list name⟩
theorem find.ev:∀d,Za2 C0 (hnd (tab [(137,Za8.S)])) Tryz.f84 .u find.S d=find.S.F d:=fun _=>by kernel_rfl
theorem find.sound:Zah Tryz.prog C0 84 find.S:=sE Za5 find.ev (Zai ⟨Za8.sound,trivial⟩) Tryz.func84
def Zh4.S:ZaI:=Zch
theorem Zh4.sound:Zah Tryz.prog C0 85 Zh4.S:=Zr4 (ρ:=Zy0) ZzA Tryz.sizeOf43 Tryz.underlying43 Tryz.zeroValue43 (by kernel_rfl) (List.all_eq_true.1 (by kernel_rfl)) Tryz.func85 (by kernel_rfl) (by kernel_rfl)
def ZeX.S:ZaI:=⟨1,[.full 1,.ptr 0 0],[.box [.sc .str,.sc (.int .i64),.sc (.int .i64),.sc (.int .i64),.sc (.int .i64),.sc (.int .i64),.sc (.int .i64),.sc .str],.arr [.str,.int .i64,.int .i64,.int .i64,.int .i64,.int .i64,.int .i64,.str]],[.str,.int .i64,.int .i64,.int .i64,.int .i64,.int .i64,.int .i64,.str,.list [.str,.int .i64,.int .i64,.int .i64,.int .i64,.int .i64,.int .i64,.str]],⟨[.int .i64,.str,.int .i64,.int .i64,.int .i64,.int .i64,.int .i64,.int .i64,.str,.list [.str,.int .i64,.int .i64,.int .i64,.int .i64,.int .i64,.int .i64,.str]],.tup [.full 1,.sc (.int .i64)],[.box [.sc .str,.sc (.int .i64),.sc (.int .i64),.sc (.int .i64),.sc (.int .i64),.sc (.int .i64),.sc (.int .i64),.sc .str],.arr [.str,.int .i64,.int .i64,.int .i64,.int .i64,.int .i64,.int .i64,.str]]⟩,
 fun ((name,y,mo,d,h,mi,sec,text,list):Str×Int×Int×Int×Int×Int×Int×Str×List (Str×Int×Int×Int×Int×Int×Int×Str))=>ZeX name y mo d h mi sec text list⟩
theorem ZeX.ev:∀d,Za2 C0 (hnd (tab [(73,ZcZ.S)])) Tryz.f79 .u ZeX.S d=ZeX.S.F d:=fun _=>by kernel_rfl
theorem ZeX.sound:Zah Tryz.prog C0 79 ZeX.S:=sE Za5 ZeX.ev (Zai ⟨ZcZ.sound,trivial⟩) Tryz.func79
def Zd2.S:ZaI:=⟨1,[.full 1,.ptr 0 0],[.box [.sc .str,.sc (.int .i64),.sc (.int .i64),.sc (.int .i64),.sc (.int .i64),.sc (.int .i64),.sc (.int .i64),.sc .str],.arr [.str,.int .i64,.int .i64,.int .i64,.int .i64,.int .i64,.int .i64,.str]],[.str,.int .i64,.int .i64,.int .i64,.int .i64,.int .i64,.int .i64,.str,.list [.str,.int .i64,.int .i64,.int .i64,.int .i64,.int .i64,.int .i64,.str]],⟨[.int .i64,.str,.int .i64,.int .i64,.int .i64,.int .i64,.int .i64,.int .i64,.str,.list [.str,.int .i64,.int .i64,.int .i64,.int .i64,.int .i64,.int .i64,.str]],.tup [.full 1,.sc (.int .i64)],[.box [.sc .str,.sc (.int .i64),.sc (.int .i64),.sc (.int .i64),.sc (.int .i64),.sc (.int .i64),.sc (.int .i64),.sc .str],.arr [.str,.int .i64,.int .i64,.int .i64,.int .i64,.int .i64,.int .i64,.str]]⟩,
 fun ((name,y,mo,d,h,mi,sec,text,list):Str×Int×Int×Int×Int×Int×Int×Str×List (Str×Int×Int×Int×Int×Int×Int×Str))=>Zd2 name y mo d h mi sec text list⟩
theorem Zd2.ev:∀d,Za2 C0 (hnd (tab [(84,find.S),(99,ZbG.S)])) Tryz.f98 .u Zd2.S d=Zd2.S.F d:=fun _=>by kernel_rfl
theorem Zd2.sound:Zah Tryz.prog C0 98 Zd2.S:=sE Za5 Zd2.ev (Zai ⟨find.sound,ZbG.sound,trivial⟩) Tryz.func98
def Zd4.S:ZaI:=⟨1,[.full 1,.ptr 0 0],[.box [.sc .str],.arr [.str,.int .i64,.int .i64,.int .i64,.int .i64,.int .i64,.int .i64,.str]],[.str,.list [.str,.int .i64,.int .i64,.int .i64,.int .i64,.int .i64,.int .i64,.str]],⟨[.int .i64,.str,.list [.str,.int .i64,.int .i64,.int .i64,.int .i64,.int .i64,.int .i64,.str]],.tup [.full 1,.sc (.int .i64)],[.box [.sc .str],.arr [.str,.int .i64,.int .i64,.int .i64,.int .i64,.int .i64,.int .i64,.str]]⟩,
 fun ((name,list):Str×List (Str×Int×Int×Int×Int×Int×Int×Str))=>Zd4 name list⟩
theorem Zd4.ev:∀d,Za2 C0 (hnd (tab [(84,find.S),(85,Zh4.S)])) Tryz.f83 .u Zd4.S d=Zd4.S.F d:=fun _=>by kernel_rfl
theorem Zd4.sound:Zah Tryz.prog C0 83 Zd4.S:=sE Za5 Zd4.ev (Zai ⟨find.sound,Zh4.sound,trivial⟩) Tryz.func83
def Zd3.S:ZaI:=⟨2,[.full 2,.ptr 0 0,.ptr 1 0],[.box [.sc .str],.box [.sc .str],.arr [.str,.int .i64,.int .i64,.int .i64,.int .i64,.int .i64,.int .i64,.str]],[.str,.str,.list [.str,.int .i64,.int .i64,.int .i64,.int .i64,.int .i64,.int .i64,.str]],⟨[.int .i64,.str,.str,.list [.str,.int .i64,.int .i64,.int .i64,.int .i64,.int .i64,.int .i64,.str]],.tup [.full 2,.sc (.int .i64)],[.box [.sc .str],.box [.sc .str],.arr [.str,.int .i64,.int .i64,.int .i64,.int .i64,.int .i64,.int .i64,.str]]⟩,
 fun ((name,to_,list):Str×Str×List (Str×Int×Int×Int×Int×Int×Int×Str))=>Zd3 name to_ list⟩
theorem Zd3.ev:∀d,Za2 C0 (hnd (tab [(84,find.S),(91,ZaO.S),(92,ZcQ.S),(93,Zbj.S)])) Tryz.f90 .u Zd3.S d=Zd3.S.F d:=fun _=>by kernel_rfl
theorem Zd3.sound:Zah Tryz.prog C0 90 Zd3.S:=sE Za5 Zd3.ev (Zai ⟨find.sound,ZaO.sound,ZcQ.sound,Zbj.sound,trivial⟩) Tryz.func90
def ZbI.S:ZaI:=⟨2,[.full 2,.ptr 0 0],[.box [.full 1],.arr [.str,.int .i64,.int .i64,.int .i64,.int .i64,.int .i64,.int .i64,.str],.arr [.str,.int .i64,.int .i64,.int .i64,.int .i64,.int .i64,.int .i64,.str]],[.list [.str,.int .i64,.int .i64,.int .i64,.int .i64,.int .i64,.int .i64,.str],.list [.str,.int .i64,.int .i64,.int .i64,.int .i64,.int .i64,.int .i64,.str]],⟨[.int .i64,.list [.str,.int .i64,.int .i64,.int .i64,.int .i64,.int .i64,.int .i64,.str],.list [.str,.int .i64,.int .i64,.int .i64,.int .i64,.int .i64,.int .i64,.str]],.tup [.full 2,.sc (.int .i64)],[.box [.full 1],.arr [.str,.int .i64,.int .i64,.int .i64,.int .i64,.int .i64,.int .i64,.str],.arr [.str,.int .i64,.int .i64,.int .i64,.int .i64,.int .i64,.int .i64,.str]]⟩,
 fun ((more,list):(List (Str×Int×Int×Int×Int×Int×Int×Str))×List (Str×Int×Int×Int×Int×Int×Int×Str))=>ZbI more list⟩
theorem ZbI.ev:∀d,Za2 C0 (hnd (tab [(73,ZcZ.S)])) Tryz.f72 (.seq .u (.seq (.seq .u (.blk (.loopS ⟨[.int .i64,.int .i64,.list [.str,.int .i64,.int .i64,.int .i64,.int .i64,.int .i64,.int .i64,.str],.list [.str,.int .i64,.int .i64,.int .i64,.int .i64,.int .i64,.int .i64,.str]],[(0,.full 2),(9,.full 1),(10,.sc (.int .i64)),(11,.sc (.int .i64))],[.box [.full 1],.arr [.str,.int .i64,.int .i64,.int .i64,.int .i64,.int .i64,.int .i64,.str],.arr [.str,.int .i64,.int .i64,.int .i64,.int .i64,.int .i64,.int .i64,.str]]⟩ (fun ((t,t1,o,list1):Int×Int×(List (Str×Int×Int×Int×Int×Int×Int×Str))×List (Str×Int×Int×Int×Int×Int×Int×Str))=>(t-t1).toNat+1) 0 ⟨[.list [.str,.int .i64,.int .i64,.int .i64,.int .i64,.int .i64,.int .i64,.str],.list [.str,.int .i64,.int .i64,.int .i64,.int .i64,.int .i64,.int .i64,.str]],[(0,.full 2)],[.box [.full 1],.arr [.str,.int .i64,.int .i64,.int .i64,.int .i64,.int .i64,.int .i64,.str],.arr [.str,.int .i64,.int .i64,.int .i64,.int .i64,.int .i64,.int .i64,.str]]⟩ .u))) .u)) ZbI.S d=ZbI.S.F d:=fun _=>by kernel_rfl
theorem ZbI.sound:Zah Tryz.prog C0 72 ZbI.S:=sE Za5 ZbI.ev (Zai ⟨ZcZ.sound,trivial⟩) Tryz.func72
def ZcC.S:ZaI:=⟨1,[.sc .str,.fn 79 [] [.ptr 0 0]],[.box [.sc .str,.sc (.int .i64),.sc (.int .i64),.sc (.int .i64),.sc (.int .i64),.sc (.int .i64),.sc (.int .i64),.sc .str]],[.str,.str,.int .i64,.int .i64,.int .i64,.int .i64,.int .i64,.int .i64,.str],⟨[.str,.int .i64,.str,.int .i64,.int .i64,.int .i64,.int .i64,.int .i64,.int .i64,.str],.tup [.sc .str,.sc (.int .i64)],[.box [.sc .str,.sc (.int .i64),.sc (.int .i64),.sc (.int .i64),.sc (.int .i64),.sc (.int .i64),.sc (.int .i64),.sc .str]]⟩,
 fun ((text,name,y,mo,d,h,mi,sec,text1):Str×Str×Int×Int×Int×Int×Int×Int×Str)=>ZcC text name y mo d h mi sec text1⟩
theorem ZcC.ev:∀d,Za2 C0 (hnd (tab [(25,ZaA.S),(27,Za6.S),(79,ZeX.S)])) Tryz.f71 .u ZcC.S d=ZcC.S.F d:=fun _=>by kernel_rfl
theorem ZcC.sound:Zah Tryz.prog C0 71 ZcC.S:=sE Za5 ZcC.ev (Zai ⟨ZaA.sound,Za6.sound,ZeX.sound,trivial⟩) Tryz.func71
def ZbM.S:ZaI:=⟨1,[.sc .str,.fn 98 [] [.ptr 0 0]],[.box [.sc .str,.sc (.int .i64),.sc (.int .i64),.sc (.int .i64),.sc (.int .i64),.sc (.int .i64),.sc (.int .i64),.sc .str]],[.str,.str,.int .i64,.int .i64,.int .i64,.int .i64,.int .i64,.int .i64,.str],⟨[.str,.int .i64,.str,.int .i64,.int .i64,.int .i64,.int .i64,.int .i64,.int .i64,.str],.tup [.sc .str,.sc (.int .i64)],[.box [.sc .str,.sc (.int .i64),.sc (.int .i64),.sc (.int .i64),.sc (.int .i64),.sc (.int .i64),.sc (.int .i64),.sc .str]]⟩,
 fun ((text,name,y,mo,d,h,mi,sec,text1):Str×Str×Int×Int×Int×Int×Int×Int×Str)=>ZbM text name y mo d h mi sec text1⟩
theorem ZbM.ev:∀d,Za2 C0 (hnd (tab [(25,ZaA.S),(27,Za6.S),(98,Zd2.S)])) Tryz.f71 .u ZbM.S d=ZbM.S.F d:=fun _=>by kernel_rfl
theorem ZbM.sound:Zah Tryz.prog C0 71 ZbM.S:=sE Za5 ZbM.ev (Zai ⟨ZaA.sound,Za6.sound,Zd2.sound,trivial⟩) Tryz.func71
def ZbP.S:ZaI:=⟨1,[.sc .str,.fn 83 [] [.ptr 0 0]],[.box [.sc .str]],[.str,.str],⟨[.str,.int .i64,.str],.tup [.sc .str,.sc (.int .i64)],[.box [.sc .str]]⟩,
 fun ((text,name):Str×Str)=>ZbP text name⟩
theorem ZbP.ev:∀d,Za2 C0 (hnd (tab [(25,ZaA.S),(27,Za6.S),(83,Zd4.S)])) Tryz.f71 .u ZbP.S d=ZbP.S.F d:=fun _=>by kernel_rfl
theorem ZbP.sound:Zah Tryz.prog C0 71 ZbP.S:=sE Za5 ZbP.ev (Zai ⟨ZaA.sound,Za6.sound,Zd4.sound,trivial⟩) Tryz.func71
def ZbN.S:ZaI:=⟨2,[.sc .str,.fn 90 [] [.ptr 0 0,.ptr 1 0]],[.box [.sc .str],.box [.sc .str]],[.str,.str,.str],⟨[.str,.int .i64,.str,.str],.tup [.sc .str,.sc (.int .i64)],[.box [.sc .str],.box [.sc .str]]⟩,
 fun ((text,name,to_):Str×Str×Str)=>ZbN text name to_⟩
theorem ZbN.ev:∀d,Za2 C0 (hnd (tab [(25,ZaA.S),(27,Za6.S),(90,Zd3.S)])) Tryz.f71 .u ZbN.S d=ZbN.S.F d:=fun _=>by kernel_rfl
theorem ZbN.sound:Zah Tryz.prog C0 71 ZbN.S:=sE Za5 ZbN.ev (Zai ⟨ZaA.sound,Za6.sound,Zd3.sound,trivial⟩) Tryz.func71
def ZbO.S:ZaI:=⟨2,[.sc .str,.fn 72 [] [.ptr 0 0]],[.box [.full 1],.arr [.str,.int .i64,.int .i64,.int .i64,.int .i64,.int .i64,.int .i64,.str]],[.str,.list [.str,.int .i64,.int .i64,.int .i64,.int .i64,.int .i64,.int .i64,.str]],⟨[.str,.int .i64,.list [.str,.int .i64,.int .i64,.int .i64,.int .i64,.int .i64,.int .i64,.str]],.tup [.sc .str,.sc (.int .i64)],[.box [.full 1],.arr [.str,.int .i64,.int .i64,.int .i64,.int .i64,.int .i64,.int .i64,.str]]⟩,
 fun ((text,more):Str×List (Str×Int×Int×Int×Int×Int×Int×Str))=>ZbO text more⟩
theorem ZbO.ev:∀d,Za2 C0 (hnd (tab [(25,ZaA.S),(27,Za6.S),(72,ZbI.S)])) Tryz.f71 .u ZbO.S d=ZbO.S.F d:=fun _=>by kernel_rfl
theorem ZbO.sound:Zah Tryz.prog C0 71 ZbO.S:=sE Za5 ZbO.ev (Zai ⟨ZaA.sound,Za6.sound,ZbI.sound,trivial⟩) Tryz.func71
def Zdk.S:ZaI:=⟨0,[.sc .str,.agg [.sc .str,.sc (.int .i64),.sc (.int .i64),.sc (.int .i64),.sc (.int .i64),.sc (.int .i64),.sc (.int .i64),.sc .str]],[],[.str,.str,.int .i64,.int .i64,.int .i64,.int .i64,.int .i64,.int .i64,.str],⟨[.str,.int .i64],.tup [.sc .str,.sc (.int .i64)],[]⟩,
 fun ((text,ename,ey,emo,ed,eh,emi,esec,etext):Str×Str×Int×Int×Int×Int×Int×Int×Str)=>Zdk text ename ey emo ed eh emi esec etext⟩
theorem Zdk.ev:∀d,Za2 C0 (hnd (tab [(71,ZcC.S),(71,ZbM.S),(71,ZbP.S),(71,ZbN.S),(71,ZbO.S)])) Tryz.f26 .u Zdk.S d=Zdk.S.F d:=fun _=>by kernel_rfl
theorem Zdk.sound:Zah Tryz.prog C0 26 Zdk.S:=sE Za5 Zdk.ev (Zai ⟨ZcC.sound,ZbM.sound,ZbP.sound,ZbN.sound,ZbO.sound,trivial⟩) Tryz.func26
def Zen.S:ZaI:=⟨0,[.sc .str,.agg [.sc .str,.sc (.int .i64),.sc (.int .i64),.sc (.int .i64),.sc (.int .i64),.sc (.int .i64),.sc (.int .i64),.sc .str]],[],[.str,.str,.int .i64,.int .i64,.int .i64,.int .i64,.int .i64,.int .i64,.str],⟨[.str,.int .i64],.tup [.sc .str,.sc (.int .i64)],[]⟩,
 fun ((text,ename,ey,emo,ed,eh,emi,esec,etext):Str×Str×Int×Int×Int×Int×Int×Int×Str)=>Zen text ename ey emo ed eh emi esec etext⟩
theorem Zen.ev:∀d,Za2 C0 (hnd (tab [(71,ZcC.S),(71,ZbM.S),(71,ZbP.S),(71,ZbN.S),(71,ZbO.S)])) Tryz.f40 .u Zen.S d=Zen.S.F d:=fun _=>by kernel_rfl
theorem Zen.sound:Zah Tryz.prog C0 40 Zen.S:=sE Za5 Zen.ev (Zai ⟨ZcC.sound,ZbM.sound,ZbP.sound,ZbN.sound,ZbO.sound,trivial⟩) Tryz.func40
def Zdj.S:ZaI:=⟨0,[.sc .str,.sc .str],[],[.str,.str],⟨[.str,.int .i64],.tup [.sc .str,.sc (.int .i64)],[]⟩,
 fun ((text,name):Str×Str)=>Zdj text name⟩
theorem Zdj.ev:∀d,Za2 C0 (hnd (tab [(71,ZcC.S),(71,ZbM.S),(71,ZbP.S),(71,ZbN.S),(71,ZbO.S)])) Tryz.f30 .u Zdj.S d=Zdj.S.F d:=fun _=>by kernel_rfl
theorem Zdj.sound:Zah Tryz.prog C0 30 Zdj.S:=sE Za5 Zdj.ev (Zai ⟨ZcC.sound,ZbM.sound,ZbP.sound,ZbN.sound,ZbO.sound,trivial⟩) Tryz.func30
def Zea.S:ZaI:=⟨0,[.sc .str,.sc .str,.sc .str],[],[.str,.str,.str],⟨[.str,.int .i64],.tup [.sc .str,.sc (.int .i64)],[]⟩,
 fun ((text,name,to_):Str×Str×Str)=>Zea text name to_⟩
theorem Zea.ev:∀d,Za2 C0 (hnd (tab [(71,ZcC.S),(71,ZbM.S),(71,ZbP.S),(71,ZbN.S),(71,ZbO.S)])) Tryz.f34 .u Zea.S d=Zea.S.F d:=fun _=>by kernel_rfl
theorem Zea.sound:Zah Tryz.prog C0 34 Zea.S:=sE Za5 Zea.ev (Zai ⟨ZcC.sound,ZbM.sound,ZbP.sound,ZbN.sound,ZbO.sound,trivial⟩) Tryz.func34
def Zdi.S:ZaI:=⟨0,[.sc .str,.sc .str],[],[.str,.str],⟨[.str,.int .i64],.tup [.sc .str,.sc (.int .i64)],[]⟩,
 fun ((a,b):Str×Str)=>Zdi a b⟩
theorem Zdi.ev:∀d,Za2 C0 (hnd (tab [(25,ZaA.S),(71,ZcC.S),(71,ZbM.S),(71,ZbP.S),(71,ZbN.S),(71,ZbO.S)])) Tryz.f23 .u Zdi.S d=Zdi.S.F d:=fun _=>by kernel_rfl
theorem Zdi.sound:Zah Tryz.prog C0 23 Zdi.S:=sE Za5 Zdi.ev (Zai ⟨ZaA.sound,ZcC.sound,ZbM.sound,ZbP.sound,ZbN.sound,ZbO.sound,trivial⟩) Tryz.func23
def ZgK.S:ZaI:=⟨0,[.sc (.int .i64)],[],[.int .i64],⟨[.str],.sc .str,[]⟩,
 fun (n:Int)=>ZgK n⟩
def ZgK.SF (k_:Nat):ZaI:=⟨0,[.sc (.int .i64)],[],[.int .i64],⟨[.str],.sc .str,[]⟩,
 fun (n:Int)=>Zt2 k_ n⟩
theorem ZgK.ev (k_:Nat):∀d,Za2 C0 (hnd (tab [(151,ZgK.SF k_)])) Tryz.f151 .u (ZgK.SF (k_+1)) d=(ZgK.SF (k_+1)).F d:=fun _=>by kernel_rfl
theorem ZgK.soundF:∀k_:Nat,Zah Tryz.prog C0 151 (ZgK.SF k_)
 | 0=>⟨rfl,fun _ _ h=>by cases h⟩
 | k_+1=>Zac Za5 (Zai (l:=[(151,ZgK.SF k_)]) ⟨ZgK.soundF k_,trivial⟩) Tryz.func151 (by kernel_rfl) (by kernel_rfl) (by kernel_rfl) (ZgK.ev k_)
theorem ZgK.sound:Zah Tryz.prog C0 151 ZgK.S:=ZgK.soundF 30
def Zc0.S:ZaI:=⟨0,[.sc (.int .i64)],[],[.int .i64],⟨[.int .i64],.sc (.int .i64),[]⟩,
 fun (n:Int)=>Zc0 n⟩
theorem Zc0.ev:∀d,Za2 C0 (hnd (tab [])) Tryz.f263 (.seq .u (.seq .u (.seq (.blk (.loop ⟨[.int .i64,.int .i64],[(0,.sc (.int .i64)),(3,.sc (.int .i64))],[]⟩ (fun ((n1,out):Int×Int)=>(n1-0).toNat+1) 0 ⟨[.int .i64],[(3,.sc (.int .i64))],[]⟩ .u)) .u))) Zc0.S d=Zc0.S.F d:=fun _=>by kernel_rfl
theorem Zc0.sound:Zah Tryz.prog C0 263 Zc0.S:=sE Za5 Zc0.ev (Zai trivial) Tryz.func263
def Zev.S:ZaI:=⟨1,[.ptr 0 0,.sc (.int .i64),.sc (.int .i64)],[.box [.full 1,.sc (.int .i64),.sc (.int .i64)],.arr [.int .u8]],[.int .i64,.int .i64,.int .i64,.int .i64,.list [.int .u8]],⟨[.int .i64,.int .i64,.list [.int .u8]],.tup [],[.box [.full 1,.sc (.int .i64),.sc (.int .i64)],.arr [.int .u8]]⟩,
 fun ((num,bits,last,fill,text):Int×Int×Int×Int×List Int)=>Zev num bits last fill text⟩
theorem Zev.ev:∀d,Za2 C0 (hnd (tab [(263,Zc0.S)])) Tryz.f239 (.seq .u (.blk (.loop ⟨[.int .i64,.int .i64,.int .i64,.int .i64,.int .i64,.list [.int .u8]],[(0,.ptr 0 0),(1,.sc (.int .i64)),(2,.sc (.int .i64)),(6,.sc (.int .i64))],[.box [.full 1,.sc (.int .i64),.sc (.int .i64)],.arr [.int .u8]]⟩ (fun ((num1,bits1,k,o,o1,o2):Int×Int×Int×Int×Int×List Int)=>(bits1-k).toNat+1) 0 ⟨[.int .i64,.int .i64,.list [.int .u8]],[],[.box [.full 1,.sc (.int .i64),.sc (.int .i64)],.arr [.int .u8]]⟩ (.seq .u (.seq (.blk (.seq .u (.seq .u (.seq .u (.seq .u (.cond (.seq (.cm [(0,[1])]) .u) .u)))))) .u))))) Zev.S d=Zev.S.F d:=fun _=>by kernel_rfl
theorem Zev.sound:Zah Tryz.prog C0 239 Zev.S:=sE Za5 Zev.ev (Zai ⟨Zc0.sound,trivial⟩) Tryz.func239
def ZdU.S:ZaI:=⟨1,[.ptr 0 0],[.box [.full 1,.sc (.int .i64),.sc (.int .i64)],.arr [.int .u8]],[.int .i64,.int .i64,.list [.int .u8]],⟨[.int .i64,.int .i64,.list [.int .u8]],.tup [],[.box [.full 1,.sc (.int .i64),.sc (.int .i64)],.arr [.int .u8]]⟩,
 fun ((last,fill,text):Int×Int×List Int)=>ZdU last fill text⟩
theorem ZdU.ev:∀d,Za2 C0 (hnd (tab [(239,Zev.S)])) Tryz.f240 .u ZdU.S d=ZdU.S.F d:=fun _=>by kernel_rfl
theorem ZdU.sound:Zah Tryz.prog C0 240 ZdU.S:=sE Za5 ZdU.ev (Zai ⟨Zev.sound,trivial⟩) Tryz.func240
def Zkn.S:ZaI:=⟨1,[.ptr 0 0],[.box [.sc .str,.sc (.int .i64),.sc .bool]],[.str,.int .i64,.bool],⟨[.int .i64,.str,.int .i64,.bool],.sc (.int .i64),[.box [.sc .str,.sc (.int .i64),.sc .bool]]⟩,
 fun ((s,at_,bad):Str×Int×Bool)=>Zkn s at_ bad⟩
theorem Zkn.ev:∀d,Za2 C0 (hnd (tab [(263,Zc0.S)])) Tryz.f258 .u Zkn.S d=Zkn.S.F d:=fun _=>by kernel_rfl
theorem Zkn.sound:Zah Tryz.prog C0 258 Zkn.S:=sE Za5 Zkn.ev (Zai ⟨Zc0.sound,trivial⟩) Tryz.func258
def Zfs.S:ZaI:=⟨1,[.ptr 0 0,.sc (.int .i64)],[.box [.sc .str,.sc (.int .i64),.sc .bool]],[.int .i64,.str,.int .i64,.bool],⟨[.int .i64,.str,.int .i64,.bool],.sc (.int .i64),[.box [.sc .str,.sc (.int .i64),.sc .bool]]⟩,
 fun ((bits,s,at_,bad):Int×Str×Int×Bool)=>Zfs bits s at_ bad⟩
theorem Zfs.ev:∀d,Za2 C0 (hnd (tab [(258,Zkn.S),(263,Zc0.S)])) Tryz.f259 (.seq .u (.seq .u (.seq (.seq .u (.blk (.loop ⟨[.int .i64,.int .i64,.int .i64,.str,.int .i64,.bool],[(0,.ptr 0 0),(1,.sc (.int .i64)),(5,.sc (.int .i64)),(6,.sc (.int .i64))],[.box [.sc .str,.sc (.int .i64),.sc .bool]]⟩ (fun ((bits1,n,k,o,o1,o2):Int×Int×Int×Str×Int×Bool)=>(bits1-k).toNat+1) 0 ⟨[.int .i64,.str,.int .i64,.bool],[(5,.sc (.int .i64))],[.box [.sc .str,.sc (.int .i64),.sc .bool]]⟩ .u))) .u))) Zfs.S d=Zfs.S.F d:=fun _=>by kernel_rfl
theorem Zfs.sound:Zah Tryz.prog C0 259 Zfs.S:=sE Za5 Zfs.ev (Zai ⟨Zkn.sound,Zc0.sound,trivial⟩) Tryz.func259
end Ev
end
section
open Go Go.Proofs
set_option maxRecDepth 100000
namespace Ev
set_option maxHeartbeats 1000000
def Zc4.S:ZaI:=⟨1,[.ptr 0 0],[.box [.sc .str,.sc (.int .i64),.sc .bool]],[.str,.int .i64,.bool],⟨[.bool,.str,.int .i64,.bool],.sc .bool,[.box [.sc .str,.sc (.int .i64),.sc .bool]]⟩,
 fun ((s,at_,bad):Str×Int×Bool)=>Zc4 s at_ bad⟩
theorem Zc4.ev:∀d,Za2 C0 (hnd (tab [(258,Zkn.S)])) Tryz.f238 (.seq .u (.seq .u (.seq (.blk (.loop ⟨[.int .i64,.str,.int .i64,.bool],[(0,.ptr 0 0),(3,.sc (.int .i64))],[.box [.sc .str,.sc (.int .i64),.sc .bool]]⟩ (fun ((n,o,o1,o2):Int×Str×Int×Bool)=>9) 0 ⟨[.int .i64,.str,.int .i64,.bool],[(3,.sc (.int .i64))],[.box [.sc .str,.sc (.int .i64),.sc .bool]]⟩ .u)) .u))) Zc4.S d=Zc4.S.F d:=fun _=>by kernel_rfl
theorem Zc4.sound:Zah Tryz.prog C0 238 Zc4.S:=sE Za5 Zc4.ev (Zai ⟨Zkn.sound,trivial⟩) Tryz.func238
def Zdp.S:ZaI:=⟨0,[.sc (.int .i64),.sc (.int .i64)],[],[.int .i64,.int .i64],⟨[.int .i64],.sc (.int .i64),[]⟩,
 fun ((num,bits):Int×Int)=>Zdp num bits⟩
theorem Zdp.ev:∀d,Za2 C0 (hnd (tab [])) Tryz.f285 (.seq .u (.seq .u (.seq (.seq .u (.blk (.loop ⟨[.int .i64,.int .i64,.int .i64,.int .i64],[(0,.sc (.int .i64)),(1,.sc (.int .i64)),(5,.sc (.int .i64)),(6,.sc (.int .i64))],[]⟩ (fun ((num1,bits1,n,k):Int×Int×Int×Int)=>(bits1-k).toNat+1) 0 ⟨[.int .i64],[(5,.sc (.int .i64))],[]⟩ .u))) .u))) Zdp.S d=Zdp.S.F d:=fun _=>by kernel_rfl
theorem Zdp.sound:Zah Tryz.prog C0 285 Zdp.S:=sE Za5 Zdp.ev (Zai trivial) Tryz.func285
def Zdo.S:ZaI:=⟨0,[.sc (.int .u32),.sc (.int .u8)],[],[.int .u32,.int .u8],⟨[.int .u32],.sc (.int .u32),[]⟩,
 fun ((c,b):Int×Int)=>Zdo c b⟩
theorem Zdo.ev:∀d,Za2 C0 (hnd (tab [])) Tryz.f221 (.seq .u (.seq .u (.seq (.seq .u (.blk (.loop ⟨[.int .u32,.int .i64],[(0,.sc (.int .u32)),(5,.sc (.int .i64))],[]⟩ (fun ((c1,k):Int×Int)=>(8-k).toNat+1) 0 ⟨[.int .u32],[(0,.sc (.int .u32))],[]⟩ .u))) .u))) Zdo.S d=Zdo.S.F d:=fun _=>by kernel_rfl
theorem Zdo.sound:Zah Tryz.prog C0 221 Zdo.S:=sE Za5 Zdo.ev (Zai trivial) Tryz.func221
def Zdt.S:ZaI:=⟨0,[.sc (.int .u32),.sc .str],[],[.int .u32,.str],⟨[.int .u32],.sc (.int .u32),[]⟩,
 fun ((crc_,text):Int×Str)=>Zdt crc_ text⟩
theorem Zdt.ev:∀d,Za2 C0 (hnd (tab [(221,Zdo.S)])) Tryz.f187 (.seq .u (.seq .u (.seq (.seq .u (.blk (.loop ⟨[.str,.int .u32,.int .i64],[(1,.sc .str),(5,.sc (.int .u32)),(6,.sc (.int .i64))],[]⟩ (fun ((text1,c,i):Str×Int×Int)=>((text1.length:Int)-i).toNat+1) 0 ⟨[.int .u32],[(5,.sc (.int .u32))],[]⟩ .u))) .u))) Zdt.S d=Zdt.S.F d:=fun _=>by kernel_rfl
theorem Zdt.sound:Zah Tryz.prog C0 187 Zdt.S:=sE Za5 Zdt.ev (Zai ⟨Zdo.sound,trivial⟩) Tryz.func187
def ZdK.S:ZaI:=⟨0,[.sc .str],[],[.str],⟨[.int .i64],.sc (.int .i64),[]⟩,
 fun (text:Str)=>ZdK text⟩
theorem ZdK.ev:∀d,Za2 C0 (hnd (tab [(187,Zdt.S)])) Tryz.f155 .u ZdK.S d=ZdK.S.F d:=fun _=>by kernel_rfl
theorem ZdK.sound:Zah Tryz.prog C0 155 ZdK.S:=sE Za5 ZdK.ev (Zai ⟨Zdt.sound,trivial⟩) Tryz.func155
def ZcT.S:ZaI:=⟨0,[.sc (.list [.int .i64])],[],[.list [.int .i64]],⟨[.int .i64],.sc (.int .i64),[]⟩,
 fun (lens:List Int)=>ZcT lens⟩
theorem ZcT.ev:∀d,Za2 C0 (hnd (tab [])) Tryz.f271 (.seq .u (.seq .u (.seq (.seq .u (.blk (.loop ⟨[.list [.int .i64],.int .i64,.int .i64],[(0,.sc (.list [.int .i64])),(3,.sc (.int .i64)),(4,.sc (.int .i64))],[]⟩ (fun ((lens1,n,i):List Int×Int×Int)=>((lens1.length:Int)-i).toNat+1) 0 ⟨[.int .i64],[(3,.sc (.int .i64))],[]⟩ .u))) .u))) ZcT.S d=ZcT.S.F d:=fun _=>by kernel_rfl
theorem ZcT.sound:Zah Tryz.prog C0 271 ZcT.S:=sE Za5 ZcT.ev (Zai trivial) Tryz.func271
def ZaU.S:ZaI:=⟨0,[.sc (.list [.int .i64])],[],[.list [.int .i64]],⟨[.bool],.sc .bool,[]⟩,
 fun (lens:List Int)=>ZaU lens⟩
theorem ZaU.ev:∀d,Za2 C0 (hnd (tab [(116,ZhH.S),(263,Zc0.S),(271,ZcT.S)])) Tryz.f279 (.seq .u (.seq .u (.seq (.seq .u (.blk (.loopS ⟨[.list [.int .i64],.int .i64,.int .i64],[(0,.sc (.list [.int .i64])),(3,.sc (.int .i64)),(4,.sc (.int .i64))],[]⟩ (fun ((lens1,sum,i):List Int×Int×Int)=>((lens1.length:Int)-i).toNat+1) 0 ⟨[.list [.int .i64],.int .i64],[(0,.sc (.list [.int .i64])),(3,.sc (.int .i64))],[]⟩ .u))) (.seq (.reg [.bool] [(5,.sc .bool)]) (.seq (.reg [.bool] [(2,.sc .bool)]) .u))))) ZaU.S d=ZaU.S.F d:=fun _=>by kernel_rfl
theorem ZaU.sound:Zah Tryz.prog C0 279 ZaU.S:=sE Za5 ZaU.ev (Zai ⟨ZhH.sound,Zc0.sound,ZcT.sound,trivial⟩) Tryz.func279
def ZaP.S:ZaI:=⟨0,[.sc (.list [.int .i64])],[],[.list [.int .i64]],⟨[.list [.int .i64]],.full 0,[.arr [.int .i64]]⟩,
 fun (lens:List Int)=>ZaP lens⟩
theorem ZaP.ev:∀d,Za2 C0 (hnd (tab [])) Tryz.f264 (.seq .u (.seq .u (.seq .u (.seq (.seq .u (.blk (.loop ⟨[.list [.int .i64],.int .i64,.int .i64,.list [.int .i64]],[(0,.sc (.list [.int .i64])),(3,.full 0),(4,.sc (.int .i64)),(5,.sc (.int .i64))],[.arr [.int .i64]]⟩ (fun ((lens1,code_,n,out):List Int×Int×Int×List Int)=>(15-n).toNat+2) 0 ⟨[.list [.int .i64]],[(3,.full 0)],[.arr [.int .i64]]⟩ (.seq .u (.seq (.blk (.seq (.seq .u (.blk (.loop ⟨[.list [.int .i64],.int .i64,.int .i64,.int .i64,.list [.int .i64]],[(0,.sc (.list [.int .i64])),(3,.full 0),(4,.sc (.int .i64)),(5,.sc (.int .i64)),(6,.sc (.int .i64))],[.arr [.int .i64]]⟩ (fun ((lens2,code_1,n1,i,out1):List Int×Int×Int×Int×List Int)=>((lens2.length:Int)-i).toNat+1) 2 ⟨[.list [.int .i64],.int .i64,.int .i64,.list [.int .i64]],[(0,.sc (.list [.int .i64])),(3,.full 0),(4,.sc (.int .i64)),(5,.sc (.int .i64))],[.arr [.int .i64]]⟩ .u))) .u)) .u))))) .u)))) ZaP.S d=ZaP.S.F d:=fun _=>by kernel_rfl
theorem ZaP.sound:Zah Tryz.prog C0 264 ZaP.S:=sE Za5 ZaP.ev (Zai trivial) Tryz.func264
def Zck.S:ZaI:=⟨0,[.sc (.list [.int .i64,.int .i64,.ints .i64])],[],[.list [.int .i64,.int .i64,.ints .i64]],⟨[.int .i64],.sc (.int .i64),[]⟩,
 fun (list:List (Int×Int×List Int))=>Zck list⟩
theorem Zck.ev:∀d,Za2 C0 (hnd (tab [])) Tryz.f282 (.seq .u (.seq .u (.seq (.seq .u (.blk (.loop ⟨[.list [.int .i64,.int .i64,.ints .i64],.int .i64,.int .i64],[(0,.sc (.list [.int .i64,.int .i64,.ints .i64])),(3,.sc (.int .i64)),(4,.sc (.int .i64))],[]⟩ (fun ((list1,at_,i):(List (Int×Int×List Int))×Int×Int)=>((list1.length:Int)-i).toNat+1) 0 ⟨[.int .i64],[(3,.sc (.int .i64))],[]⟩ (.seq .u (.seq (.blk (.seq (.reg [.bool] [(47,.sc .bool)]) .u)) .u))))) .u))) Zck.S d=Zck.S.F d:=fun _=>by kernel_rfl
theorem Zck.sound:Zah Tryz.prog C0 282 Zck.S:=sE Za5 Zck.ev (Zai trivial) Tryz.func282
def Zf9.S:ZaI:=⟨0,[.sc (.list [.int .i64,.int .i64,.ints .i64]),.sc (.int .i64)],[],[.list [.int .i64,.int .i64,.ints .i64],.int .i64],⟨[.list [.int .i64,.int .i64,.ints .i64]],.full 0,[.arr [.int .i64,.int .i64,.ints .i64]]⟩,
 fun ((list,at_):(List (Int×Int×List Int))×Int)=>Zf9 list at_⟩
theorem Zf9.ev:∀d,Za2 C0 (hnd (tab [])) Tryz.f283 .u Zf9.S d=Zf9.S.F d:=fun _=>by kernel_rfl
theorem Zf9.sound:Zah Tryz.prog C0 283 Zf9.S:=sE Za5 Zf9.ev (Zai trivial) Tryz.func283
def Zbh.S:ZaI:=⟨0,[.sc (.list [.int .i64])],[],[.list [.int .i64]],⟨[.list [.int .i64]],.full 0,[.arr [.int .i64]]⟩,
 fun (counts:List Int)=>Zbh counts⟩
theorem Zbh.ev:∀d,Za2 C0 (hnd (tab [(282,Zck.S),(283,Zf9.S)])) Tryz.f272 (.seq .u (.seq .u (.seq .u (.seq (.seq .u (.blk (.loop ⟨[.list [.int .i64],.int .i64,.list [.int .i64],.list [.int .i64,.int .i64,.ints .i64]],[(0,.sc (.list [.int .i64])),(3,.full 0),(4,.full 1),(5,.sc (.int .i64))],[.arr [.int .i64],.arr [.int .i64,.int .i64,.ints .i64]]⟩ (fun ((counts1,i,out,list):List Int×Int×List Int×List (Int×Int×List Int))=>((counts1.length:Int)-i).toNat+1) 0 ⟨[.list [.int .i64],.list [.int .i64,.int .i64,.ints .i64]],[(3,.full 0),(4,.full 1)],[.arr [.int .i64],.arr [.int .i64,.int .i64,.ints .i64]]⟩ .u))) (.join ⟨[.list [.int .i64],.list [.int .i64,.int .i64,.ints .i64]],[(3,.full 0),(4,.full 1)],[.arr [.int .i64],.arr [.int .i64,.int .i64,.ints .i64]]⟩ .u (.seq (.blk (.loop ⟨[.list [.int .i64],.list [.int .i64,.int .i64,.ints .i64]],[(3,.full 0),(4,.full 1)],[.arr [.int .i64],.arr [.int .i64,.int .i64,.ints .i64]]⟩ (fun ((out3,list3):List Int×List (Int×Int×List Int))=>((list3.length:Int)-1).toNat+1) 2 ⟨[.list [.int .i64]],[(3,.full 0)],[.arr [.int .i64]]⟩ (.seq .u (.blk (.seq .u (.seq .u (.seq .u (.seq .u (.seq .u (.seq .u (.seq .u (.join ⟨[.int .i64,.list [.int .i64],.list [.int .i64,.int .i64,.ints .i64],.int .i64,.int .i64,.list [.int .i64],.int .i64,.int .i64,.list [.int .i64]],[(3,.full 0),(4,.full 1),(7,.ptr 2 0),(8,.ptr 3 0),(9,.sc (.int .i64))],[.arr [.int .i64],.arr [.int .i64,.int .i64,.ints .i64],.box [.sc (.int .i64),.sc (.int .i64),.sc (.list [.int .i64])],.box [.sc (.int .i64),.sc (.int .i64),.sc (.list [.int .i64])]]⟩ .u (.seq .u (.seq (.seq .u (.blk (.loop ⟨[.int .i64,.int .i64,.list [.int .i64],.list [.int .i64,.int .i64,.ints .i64],.int .i64,.int .i64,.list [.int .i64],.int .i64,.int .i64,.list [.int .i64],.list [.int .i64]],[(3,.full 0),(4,.full 1),(7,.ptr 2 0),(8,.ptr 3 0),(9,.sc (.int .i64)),(10,.full 4),(11,.sc (.int .i64))],[.arr [.int .i64],.arr [.int .i64,.int .i64,.ints .i64],.box [.sc (.int .i64),.sc (.int .i64),.sc (.list [.int .i64])],.box [.sc (.int .i64),.sc (.int .i64),.sc (.list [.int .i64])],.arr [.int .i64]]⟩ (fun ((first1,i1,out5,list5,o6,o7,o8,o9,o10,o11,syms):Int×Int×List Int×(List (Int×Int×List Int))×Int×Int×List Int×Int×Int×List Int×List Int)=>((syms.length:Int)-i1).toNat+1) 4 ⟨[.int .i64,.list [.int .i64],.list [.int .i64,.int .i64,.ints .i64],.int .i64,.int .i64,.list [.int .i64],.int .i64,.int .i64,.list [.int .i64],.list [.int .i64]],[(3,.full 0),(4,.full 1),(7,.ptr 2 0),(8,.ptr 3 0),(9,.sc (.int .i64)),(10,.full 4)],[.arr [.int .i64],.arr [.int .i64,.int .i64,.ints .i64],.box [.sc (.int .i64),.sc (.int .i64),.sc (.list [.int .i64])],.box [.sc (.int .i64),.sc (.int .i64),.sc (.list [.int .i64])],.arr [.int .i64]]⟩ .u))) .u)))))))))))))) .u)))))) Zbh.S d=Zbh.S.F d:=fun _=>by kernel_rfl
theorem Zbh.sound:Zah Tryz.prog C0 272 Zbh.S:=sE Za5 Zbh.ev (Zai ⟨Zck.sound,Zf9.sound,trivial⟩) Tryz.func272
def Zdn.S:ZaI:=⟨0,[.sc (.list [.int .i64])],[],[.list [.int .i64]],⟨[.int .i64],.sc (.int .i64),[]⟩,
 fun (lens:List Int)=>Zdn lens⟩
theorem Zdn.ev:∀d,Za2 C0 (hnd (tab [])) Tryz.f273 (.seq .u (.seq .u (.seq (.seq .u (.blk (.loop ⟨[.list [.int .i64],.int .i64,.int .i64],[(0,.sc (.list [.int .i64])),(3,.sc (.int .i64)),(4,.sc (.int .i64))],[]⟩ (fun ((lens1,n,i):List Int×Int×Int)=>((lens1.length:Int)-i).toNat+1) 0 ⟨[.int .i64],[(3,.sc (.int .i64))],[]⟩ .u))) .u))) Zdn.S d=Zdn.S.F d:=fun _=>by kernel_rfl
theorem Zdn.sound:Zah Tryz.prog C0 273 Zdn.S:=sE Za5 Zdn.ev (Zai trivial) Tryz.func273
def Zc7.S:ZaI:=⟨0,[.sc (.list [.int .i64]),.sc (.int .i64)],[],[.list [.int .i64],.int .i64],⟨[.list [.int .i64]],.full 0,[.arr [.int .i64]]⟩,
 fun ((counts,most):List Int×Int)=>Zc7 counts most⟩
theorem Zc7.ev:∀d,Za2 C0 (hnd (tab [(272,Zbh.S),(273,Zdn.S)])) Tryz.f247 (.seq .u (.seq .u (.seq .u (.seq (.blk (.loop ⟨[.int .i64,.list [.int .i64],.list [.int .i64]],[(1,.sc (.int .i64)),(5,.full 0),(6,.full 1)],[.arr [.int .i64],.arr [.int .i64]]⟩ (fun ((most1,list,out):Int×List Int×List Int)=>100000) 0 ⟨[.list [.int .i64]],[(6,.full 0)],[.arr [.int .i64]]⟩ (.seq .u (.blk (.seq (.seq .u (.blk (.loop ⟨[.int .i64,.int .i64,.list [.int .i64]],[(1,.sc (.int .i64)),(5,.full 0),(7,.sc (.int .i64))],[.arr [.int .i64]]⟩ (fun ((most2,i,list1):Int×Int×List Int)=>((list1.length:Int)-i).toNat+1) 2 ⟨[.int .i64,.list [.int .i64]],[(1,.sc (.int .i64)),(5,.full 0)],[.arr [.int .i64]]⟩ .u))) .u))))) .u)))) Zc7.S d=Zc7.S.F d:=fun _=>by kernel_rfl
theorem Zc7.sound:Zah Tryz.prog C0 247 Zc7.S:=sE Za5 Zc7.ev (Zai ⟨Zbh.sound,Zdn.sound,trivial⟩) Tryz.func247
def Ze5.S:ZaI:=⟨0,[.sc (.list [.int .i64]),.sc (.list [.int .i64]),.sc (.int .i64)],[],[.list [.int .i64],.list [.int .i64],.int .i64],⟨[.int .i64,.int .i64],.agg [.sc (.int .i64),.sc (.int .i64)],[]⟩,
 fun ((lens,codes_,sym):List Int×List Int×Int)=>Ze5 lens codes_ sym⟩
theorem Ze5.ev:∀d,Za2 C0 (hnd (tab [(285,Zdp.S)])) Tryz.f281 .u Ze5.S d=Ze5.S.F d:=fun _=>by kernel_rfl
theorem Ze5.sound:Zah Tryz.prog C0 281 Ze5.S:=sE Za5 Ze5.ev (Zai ⟨Zdp.sound,trivial⟩) Tryz.func281
def ZaX.S:ZaI:=⟨1,[.ptr 0 0,.sc (.list [.int .i64]),.sc (.list [.int .i64])],[.box [.sc .str,.sc (.int .i64),.sc .bool]],[.list [.int .i64],.list [.int .i64],.str,.int .i64,.bool],⟨[.int .i64,.str,.int .i64,.bool],.sc (.int .i64),[.box [.sc .str,.sc (.int .i64),.sc .bool]]⟩,
 fun ((lens,codes_,s,at_,bad):List Int×List Int×Str×Int×Bool)=>ZaX lens codes_ s at_ bad⟩
theorem ZaX.ev:∀d,Za2 C0 (hnd (tab [(258,Zkn.S)])) Tryz.f277 (.seq .u (.seq .u (.seq (.seq .u (.blk (.loopS ⟨[.list [.int .i64],.list [.int .i64],.int .i64,.int .i64,.str,.int .i64,.bool],[(0,.ptr 0 0),(1,.sc (.list [.int .i64])),(2,.sc (.list [.int .i64])),(7,.sc (.int .i64)),(8,.sc (.int .i64))],[.box [.sc .str,.sc (.int .i64),.sc .bool]]⟩ (fun ((lens1,codes_1,code_,n,o,o1,o2):List Int×List Int×Int×Int×Str×Int×Bool)=>(15-n).toNat+2) 0 ⟨[.str,.int .i64,.bool],[(0,.ptr 0 0)],[.box [.sc .str,.sc (.int .i64),.sc .bool]]⟩ (.seq (.seq (.reg [.bool] [(18,.sc .bool)]) .u) (.seq (.blk (.seq .u (.seq .u (.blk (.loopS ⟨[.list [.int .i64],.list [.int .i64],.int .i64,.int .i64,.int .i64,.str,.int .i64,.bool],[(0,.ptr 0 0),(1,.sc (.list [.int .i64])),(2,.sc (.list [.int .i64])),(7,.sc (.int .i64)),(8,.sc (.int .i64)),(9,.sc (.int .i64))],[.box [.sc .str,.sc (.int .i64),.sc .bool]]⟩ (fun ((lens2,codes_2,code_1,n1,i,o3,o4,o5):List Int×List Int×Int×Int×Int×Str×Int×Bool)=>((lens2.length:Int)-i).toNat+1) 2 ⟨[.list [.int .i64],.list [.int .i64],.int .i64,.int .i64,.str,.int .i64,.bool],[(0,.ptr 0 0),(1,.sc (.list [.int .i64])),(2,.sc (.list [.int .i64])),(7,.sc (.int .i64)),(8,.sc (.int .i64))],[.box [.sc .str,.sc (.int .i64),.sc .bool]]⟩ (.seq .u (.seq (.blk (.seq (.reg [.bool] [(45,.sc .bool)]) .u)) .u))))))) .u))))) .u))) ZaX.S d=ZaX.S.F d:=fun _=>by kernel_rfl
theorem ZaX.sound:Zah Tryz.prog C0 277 ZaX.S:=sE Za5 ZaX.ev (Zai ⟨Zkn.sound,trivial⟩) Tryz.func277
def Ze4.S:ZaI:=⟨0,[.full 0,.agg [.sc (.int .i64),.sc (.int .i64),.sc (.int .i64)]],[.arr [.int .u8]],[.int .i64,.int .i64,.int .i64,.list [.int .u8]],⟨[.bool,.list [.int .u8]],.tup [.full 0,.sc .bool],[.arr [.int .u8]]⟩,
 fun ((byte,long,back,text):Int×Int×Int×List Int)=>Ze4 byte long back text⟩
theorem Ze4.ev:∀d,Za2 C0 (hnd (tab [(116,ZhH.S)])) Tryz.f284 (.seq .u (.seq .u (.seq (.seq (.reg [.bool] [(45,.sc .bool)]) .u) (.seq (.seq .u (.blk (.loop ⟨[.int .i64,.list [.int .u8],.int .i64,.int .i64,.int .i64],[(0,.full 0),(3,.ptr 1 0),(6,.sc (.int .i64))],[.arr [.int .u8],.box [.sc (.int .i64),.sc (.int .i64),.sc (.int .i64)]]⟩ (fun ((i,text1,o,o1,o2):Int×List Int×Int×Int×Int)=>(o1-i).toNat+1) 0 ⟨[.list [.int .u8]],[(0,.full 0)],[.arr [.int .u8]]⟩ .u))) .u)))) Ze4.S d=Ze4.S.F d:=fun _=>by kernel_rfl
theorem Ze4.sound:Zah Tryz.prog C0 284 Ze4.S:=sE Za5 Ze4.ev (Zai ⟨ZhH.sound,trivial⟩) Tryz.func284
def Zcr.S:ZaI:=⟨0,[.sc .str,.sc (.int .i64),.sc (.int .i64)],[],[.str,.int .i64,.int .i64],⟨[.int .i64],.sc (.int .i64),[]⟩,
 fun ((text,at_,back):Str×Int×Int)=>Zcr text at_ back⟩
theorem Zcr.ev:∀d,Za2 C0 (hnd (tab [])) Tryz.f270 (.seq .u (.seq .u (.seq (.blk (.loop ⟨[.str,.int .i64,.int .i64,.int .i64],[(0,.sc .str),(1,.sc (.int .i64)),(2,.sc (.int .i64)),(7,.sc (.int .i64))],[]⟩ (fun ((text1,at_1,back1,n):Str×Int×Int×Int)=>62) 0 ⟨[.int .i64],[(7,.sc (.int .i64))],[]⟩ (.seq (.seq (.reg [.bool] [(32,.sc .bool)]) .u) .u))) .u))) Zcr.S d=Zcr.S.F d:=fun _=>by kernel_rfl
theorem Zcr.sound:Zah Tryz.prog C0 270 Zcr.S:=sE Za5 Zcr.ev (Zai trivial) Tryz.func270
def ZaL.S:ZaI:=⟨0,[.sc .str],[],[.str],⟨[.list [.int .i64,.int .i64,.int .i64]],.full 0,[.arr [.int .i64,.int .i64,.int .i64]]⟩,
 fun (text:Str)=>ZaL text⟩
theorem ZaL.ev:∀d,Za2 C0 (hnd (tab [(270,Zcr.S)])) Tryz.f242 (.seq .u (.seq .u (.seq (.seq .u (.blk (.loop ⟨[.str,.int .i64,.list [.int .i64,.int .i64,.int .i64]],[(0,.sc .str),(3,.full 0),(4,.sc (.int .i64))],[.arr [.int .i64,.int .i64,.int .i64]]⟩ (fun ((text1,at_,out):Str×Int×List (Int×Int×Int))=>((text1.length:Int)-at_).toNat+1) 0 ⟨[.list [.int .i64,.int .i64,.int .i64]],[(3,.full 0)],[.arr [.int .i64,.int .i64,.int .i64]]⟩ (.seq .u (.blk (.seq .u (.seq .u (.seq (.seq .u (.blk (.loop ⟨[.str,.int .i64,.int .i64,.int .i64,.int .i64,.list [.int .i64,.int .i64,.int .i64]],[(0,.sc .str),(3,.full 0),(4,.sc (.int .i64)),(5,.sc (.int .i64)),(6,.sc (.int .i64)),(7,.sc (.int .i64))],[.arr [.int .i64,.int .i64,.int .i64]]⟩ (fun ((text2,at_1,long,far,back,out1):Str×Int×Int×Int×Int×List (Int×Int×Int))=>(250-back).toNat+2) 2 ⟨[.str,.int .i64,.int .i64,.int .i64,.list [.int .i64,.int .i64,.int .i64]],[(0,.sc .str),(3,.full 0),(4,.sc (.int .i64)),(5,.sc (.int .i64)),(6,.sc (.int .i64))],[.arr [.int .i64,.int .i64,.int .i64]]⟩ (.seq (.seq (.reg [.bool] [(20,.sc .bool)]) .u) .u)))) .u)))))))) .u))) ZaL.S d=ZaL.S.F d:=fun _=>by kernel_rfl
theorem ZaL.sound:Zah Tryz.prog C0 242 ZaL.S:=sE Za5 ZaL.ev (Zai ⟨Zcr.sound,trivial⟩) Tryz.func242
def Zc6.S:ZaI:=⟨0,[.sc (.list [.int .i64]),.sc (.int .i64)],[],[.list [.int .i64],.int .i64],⟨[.list [.int .i64]],.full 0,[.arr [.int .i64]]⟩,
 fun ((extra,from_):List Int×Int)=>Zc6 extra from_⟩
theorem Zc6.ev:∀d,Za2 C0 (hnd (tab [(263,Zc0.S)])) Tryz.f265 (.seq .u (.seq .u (.seq (.seq .u (.blk (.loop ⟨[.list [.int .i64],.int .i64,.int .i64,.list [.int .i64]],[(0,.sc (.list [.int .i64])),(1,.sc (.int .i64)),(5,.full 0),(6,.sc (.int .i64))],[.arr [.int .i64]]⟩ (fun ((extra1,from_1,i,out):List Int×Int×Int×List Int)=>((extra1.length:Int)-i).toNat+1) 0 ⟨[.list [.int .i64]],[(5,.full 0)],[.arr [.int .i64]]⟩ .u))) .u))) Zc6.S d=Zc6.S.F d:=fun _=>by kernel_rfl
theorem Zc6.sound:Zah Tryz.prog C0 265 Zc6.S:=sE Za5 Zc6.ev (Zai ⟨Zc0.sound,trivial⟩) Tryz.func265
def Zbc.S:ZaI:=⟨0,[],[],[],⟨[.list [.int .i64]],.full 0,[.arr [.int .i64]]⟩,
 fun (_:Unit)=>Zbc⟩
theorem Zbc.ev:∀d,Za2 C0 (hnd (tab [])) Tryz.f266 .u Zbc.S d=Zbc.S.F d:=fun _=>by kernel_rfl
theorem Zbc.sound:Zah Tryz.prog C0 266 Zbc.S:=sE Za5 Zbc.ev (Zai trivial) Tryz.func266
def Zbd.S:ZaI:=⟨0,[],[],[],⟨[.list [.int .i64]],.full 0,[.arr [.int .i64]]⟩,
 fun (_:Unit)=>Zbd⟩
theorem Zbd.ev:∀d,Za2 C0 (hnd (tab [])) Tryz.f267 .u Zbd.S d=Zbd.S.F d:=fun _=>by kernel_rfl
theorem Zbd.sound:Zah Tryz.prog C0 267 Zbd.S:=sE Za5 Zbd.ev (Zai trivial) Tryz.func267
def Zfm.S:ZaI:=⟨0,[.sc (.list [.int .i64]),.sc (.int .i64)],[],[.list [.int .i64],.int .i64],⟨[.int .i64],.sc (.int .i64),[]⟩,
 fun ((base,n):List Int×Int)=>Zfm base n⟩
theorem Zfm.ev:∀d,Za2 C0 (hnd (tab [])) Tryz.f269 (.seq .u (.seq .u (.seq (.blk (.loop ⟨[.list [.int .i64],.int .i64,.int .i64],[(0,.sc (.list [.int .i64])),(1,.sc (.int .i64)),(5,.sc (.int .i64))],[]⟩ (fun ((base1,n1,k):List Int×Int×Int)=>(base1.length:Int).toNat+1) 0 ⟨[.int .i64],[(5,.sc (.int .i64))],[]⟩ (.seq (.seq (.reg [.bool] [(19,.sc .bool)]) .u) .u))) .u))) Zfm.S d=Zfm.S.F d:=fun _=>by kernel_rfl
theorem Zfm.sound:Zah Tryz.prog C0 269 Zfm.S:=sE Za5 Zfm.ev (Zai trivial) Tryz.func269
def Zdb.S:ZaI:=⟨0,[],[],[],⟨[.list [.int .i64]],.full 0,[.arr [.int .i64]]⟩,
 fun (_:Unit)=>Zdb⟩
theorem Zdb.ev:∀d,Za2 C0 (hnd (tab [])) Tryz.f243 (.seq .u (.seq .u (.seq (.seq .u (.blk (.loop ⟨[.int .i64,.list [.int .i64]],[(1,.full 0),(2,.sc (.int .i64))],[.arr [.int .i64]]⟩ (fun ((i,out):Int×List Int)=>(288-i).toNat+1) 0 ⟨[.list [.int .i64]],[(1,.full 0)],[.arr [.int .i64]]⟩ .u))) .u))) Zdb.S d=Zdb.S.F d:=fun _=>by kernel_rfl
theorem Zdb.sound:Zah Tryz.prog C0 243 Zdb.S:=sE Za5 Zdb.ev (Zai trivial) Tryz.func243
def Zdc.S:ZaI:=⟨0,[],[],[],⟨[.list [.int .i64]],.full 0,[.arr [.int .i64]]⟩,
 fun (_:Unit)=>Zdc⟩
theorem Zdc.ev:∀d,Za2 C0 (hnd (tab [])) Tryz.f244 (.seq .u (.seq .u (.seq (.seq .u (.blk (.loop ⟨[.int .i64,.list [.int .i64]],[(1,.full 0),(2,.sc (.int .i64))],[.arr [.int .i64]]⟩ (fun ((i,out):Int×List Int)=>(32-i).toNat+1) 0 ⟨[.list [.int .i64]],[(1,.full 0)],[.arr [.int .i64]]⟩ .u))) .u))) Zdc.S d=Zdc.S.F d:=fun _=>by kernel_rfl
theorem Zdc.sound:Zah Tryz.prog C0 244 Zdc.S:=sE Za5 Zdc.ev (Zai trivial) Tryz.func244
def ZnT.S:ZaI:=⟨1,[.ptr 0 0,.sc (.list [.int .i64]),.sc (.list [.int .i64]),.sc (.int .i64)],[.box [.full 1,.sc (.int .i64),.sc (.int .i64)],.arr [.int .u8]],[.list [.int .i64],.list [.int .i64],.int .i64,.int .i64,.int .i64,.list [.int .u8]],⟨[.int .i64,.int .i64,.list [.int .u8]],.tup [],[.box [.full 1,.sc (.int .i64),.sc (.int .i64)],.arr [.int .u8]]⟩,
 fun ((lens,codes_,sym,last,fill,text):List Int×List Int×Int×Int×Int×List Int)=>ZnT lens codes_ sym last fill text⟩
theorem ZnT.ev:∀d,Za2 C0 (hnd (tab [(239,Zev.S),(281,Ze5.S)])) Tryz.f268 .u ZnT.S d=ZnT.S.F d:=fun _=>by kernel_rfl
theorem ZnT.sound:Zah Tryz.prog C0 268 ZnT.S:=sE Za5 ZnT.ev (Zai ⟨Zev.sound,Ze5.sound,trivial⟩) Tryz.func268
def ZbS.S:ZaI:=⟨1,[.ptr 0 0,.sc (.list [.int .i64,.int .i64,.int .i64]),.sc (.list [.int .i64]),.sc (.list [.int .i64])],[.box [.full 1,.sc (.int .i64),.sc (.int .i64)],.arr [.int .u8]],[.list [.int .i64,.int .i64,.int .i64],.list [.int .i64],.list [.int .i64],.int .i64,.int .i64,.list [.int .u8]],⟨[.int .i64,.int .i64,.list [.int .u8]],.tup [],[.box [.full 1,.sc (.int .i64),.sc (.int .i64)],.arr [.int .u8]]⟩,
 fun ((list,longs,backs,last,fill,text):(List (Int×Int×Int))×List Int×List Int×Int×Int×List Int)=>ZbS list longs backs last fill text⟩
theorem ZbS.ev:∀d,Za2 C0 (hnd (tab [(239,Zev.S),(264,ZaP.S),(265,Zc6.S),(266,Zbc.S),(267,Zbd.S),(268,ZnT.S),(269,Zfm.S)])) Tryz.f241 (.seq .u (.seq .u (.seq .u (.seq .u (.seq (.seq .u (.blk (.loop ⟨[.list [.int .i64,.int .i64,.int .i64],.list [.int .i64],.list [.int .i64],.int .i64,.int .i64,.int .i64,.list [.int .i64],.list [.int .i64],.list [.int .i64],.list [.int .i64],.list [.int .u8]],[(0,.ptr 0 0),(1,.sc (.list [.int .i64,.int .i64,.int .i64])),(2,.sc (.list [.int .i64])),(3,.sc (.list [.int .i64])),(8,.full 1),(9,.full 2),(10,.full 3),(11,.full 4),(12,.sc (.int .i64))],[.box [.full 5,.sc (.int .i64),.sc (.int .i64)],.arr [.int .i64],.arr [.int .i64],.arr [.int .i64],.arr [.int .i64],.arr [.int .u8]]⟩ (fun ((list1,longs1,backs1,i,o,o1,a,b,long,back,o2):(List (Int×Int×Int))×List Int×List Int×Int×Int×Int×List Int×List Int×List Int×List Int×List Int)=>((list1.length:Int)-i).toNat+1) 0 ⟨[.list [.int .i64],.int .i64,.int .i64,.list [.int .i64],.list [.int .u8]],[(0,.ptr 0 0),(2,.sc (.list [.int .i64])),(8,.full 1)],[.box [.full 2,.sc (.int .i64),.sc (.int .i64)],.arr [.int .i64],.arr [.int .u8]]⟩ .u))) .u))))) ZbS.S d=ZbS.S.F d:=fun _=>by kernel_rfl
theorem ZbS.sound:Zah Tryz.prog C0 241 ZbS.S:=sE Za5 ZbS.ev (Zai ⟨Zev.sound,ZaP.sound,Zc6.sound,Zbc.sound,Zbd.sound,ZnT.sound,Zfm.sound,trivial⟩) Tryz.func241
def ZeI.S:ZaI:=⟨0,[.sc .str],[],[.str],⟨[.str],.sc .str,[]⟩,
 fun (text:Str)=>ZeI text⟩
theorem ZeI.ev:∀d,Za2 C0 (hnd (tab [(239,Zev.S),(240,ZdU.S)])) Tryz.f223 .u ZeI.S d=ZeI.S.F d:=fun _=>by kernel_rfl
theorem ZeI.sound:Zah Tryz.prog C0 223 ZeI.S:=sE Za5 ZeI.ev (Zai ⟨Zev.sound,ZdU.sound,trivial⟩) Tryz.func223
def ZeJ.S:ZaI:=⟨0,[.sc .str],[],[.str],⟨[.str],.sc .str,[]⟩,
 fun (text:Str)=>ZeJ text⟩
theorem ZeJ.ev:∀d,Za2 C0 (hnd (tab [(239,Zev.S),(240,ZdU.S),(241,ZbS.S),(242,ZaL.S),(243,Zdb.S),(244,Zdc.S)])) Tryz.f224 .u ZeJ.S d=ZeJ.S.F d:=fun _=>by kernel_rfl
theorem ZeJ.sound:Zah Tryz.prog C0 224 ZeJ.S:=sE Za5 ZeJ.ev (Zai ⟨Zev.sound,ZdU.sound,ZbS.sound,ZaL.sound,Zdb.sound,Zdc.sound,trivial⟩) Tryz.func224
end Ev
end
section
open Go Go.Proofs
set_option maxRecDepth 100000
namespace Ev
set_option maxHeartbeats 1000000
def ZbD.S:ZaI:=⟨0,[.sc (.list [.int .i64,.int .i64,.int .i64])],[],[.list [.int .i64,.int .i64,.int .i64]],⟨[.list [.int .i64],.list [.int .i64]],.tup [.full 0,.full 1],[.arr [.int .i64],.arr [.int .i64]]⟩,
 fun (list:List (Int×Int×Int))=>ZbD list⟩
theorem ZbD.ev:∀d,Za2 C0 (hnd (tab [(265,Zc6.S),(266,Zbc.S),(267,Zbd.S),(269,Zfm.S),(271,ZcT.S)])) Tryz.f245 (.seq .u (.seq .u (.seq .u (.seq .u (.seq .u (.seq .u (.seq (.seq .u (.blk (.loop ⟨[.list [.int .i64,.int .i64,.int .i64],.int .i64,.list [.int .i64],.list [.int .i64],.list [.int .i64],.list [.int .i64]],[(0,.sc (.list [.int .i64,.int .i64,.int .i64])),(4,.full 0),(5,.full 1),(6,.full 2),(7,.full 3),(8,.sc (.int .i64))],[.arr [.int .i64],.arr [.int .i64],.arr [.int .i64],.arr [.int .i64]]⟩ (fun ((list1,i,longs,backs,long,back):(List (Int×Int×Int))×Int×List Int×List Int×List Int×List Int)=>((list1.length:Int)-i).toNat+1) 0 ⟨[.list [.int .i64],.list [.int .i64]],[(4,.full 0),(5,.full 1)],[.arr [.int .i64],.arr [.int .i64]]⟩ .u))) .u))))))) ZbD.S d=ZbD.S.F d:=fun _=>by kernel_rfl
theorem ZbD.sound:Zah Tryz.prog C0 245 ZbD.S:=sE Za5 ZbD.ev (Zai ⟨Zc6.sound,Zbc.sound,Zbd.sound,Zfm.sound,ZcT.sound,trivial⟩) Tryz.func245
def ZcN.S:ZaI:=⟨0,[.sc (.list [.int .i64]),.sc (.int .i64)],[],[.list [.int .i64],.int .i64],⟨[.list [.int .i64]],.sc (.list [.int .i64]),[]⟩,
 fun ((lens,least_):List Int×Int)=>ZcN lens least_⟩
theorem ZcN.ev:∀d,Za2 C0 (hnd (tab [])) Tryz.f246 (.seq .u (.seq .u (.seq (.blk (.loop ⟨[.list [.int .i64],.int .i64,.int .i64],[(0,.sc (.list [.int .i64])),(1,.sc (.int .i64)),(5,.sc (.int .i64))],[]⟩ (fun ((lens1,least_1,n):List Int×Int×Int)=>(n-least_1).toNat+1) 0 ⟨[.list [.int .i64],.int .i64],[(0,.sc (.list [.int .i64])),(5,.sc (.int .i64))],[]⟩ (.seq (.seq (.reg [.bool] [(18,.sc .bool)]) .u) .u))) .u))) ZcN.S d=ZcN.S.F d:=fun _=>by kernel_rfl
theorem ZcN.sound:Zah Tryz.prog C0 246 ZcN.S:=sE Za5 ZcN.ev (Zai trivial) Tryz.func246
def ZdL.S:ZaI:=⟨0,[],[],[],⟨[.list [.int .i64]],.full 0,[.arr [.int .i64]]⟩,
 fun (_:Unit)=>ZdL⟩
theorem ZdL.ev:∀d,Za2 C0 (hnd (tab [])) Tryz.f274 .u ZdL.S d=ZdL.S.F d:=fun _=>by kernel_rfl
theorem ZdL.sound:Zah Tryz.prog C0 274 ZdL.S:=sE Za5 ZdL.ev (Zai trivial) Tryz.func274
def Zct.S:ZaI:=⟨1,[.ptr 0 0,.sc (.list [.int .i64]),.sc (.list [.int .i64])],[.box [.full 1,.sc (.int .i64),.sc (.int .i64)],.arr [.int .u8]],[.list [.int .i64],.list [.int .i64],.int .i64,.int .i64,.list [.int .u8]],⟨[.int .i64,.int .i64,.list [.int .u8]],.tup [],[.box [.full 1,.sc (.int .i64),.sc (.int .i64)],.arr [.int .u8]]⟩,
 fun ((longs,backs,last,fill,text):List Int×List Int×Int×Int×List Int)=>Zct longs backs last fill text⟩
theorem Zct.ev:∀d,Za2 C0 (hnd (tab [(239,Zev.S),(247,Zc7.S),(264,ZaP.S),(268,ZnT.S),(274,ZdL.S)])) Tryz.f248 (.seq .u (.seq .u (.seq (.seq .u (.blk (.loop ⟨[.list [.int .i64],.list [.int .i64],.int .i64,.int .i64,.int .i64,.list [.int .i64],.list [.int .i64],.list [.int .u8]],[(0,.ptr 0 0),(1,.sc (.list [.int .i64])),(2,.sc (.list [.int .i64])),(6,.full 1),(7,.full 2),(8,.sc (.int .i64))],[.box [.full 3,.sc (.int .i64),.sc (.int .i64)],.arr [.int .i64],.arr [.int .i64],.arr [.int .u8]]⟩ (fun ((longs1,backs1,i,o,o1,all,counts,o2):List Int×List Int×Int×Int×Int×List Int×List Int×List Int)=>((all.length:Int)-i).toNat+1) 0 ⟨[.list [.int .i64],.list [.int .i64],.int .i64,.int .i64,.list [.int .i64],.list [.int .i64],.list [.int .u8]],[(0,.ptr 0 0),(1,.sc (.list [.int .i64])),(2,.sc (.list [.int .i64])),(6,.full 1),(7,.full 2)],[.box [.full 3,.sc (.int .i64),.sc (.int .i64)],.arr [.int .i64],.arr [.int .i64],.arr [.int .u8]]⟩ .u))) (.seq .u (.seq .u (.seq .u (.seq .u (.seq .u (.seq (.seq .u (.blk (.loop ⟨[.int .i64,.int .i64,.int .i64,.list [.int .i64],.list [.int .i64],.list [.int .i64],.list [.int .u8]],[(0,.ptr 0 0),(6,.full 1),(9,.full 2),(10,.full 3),(11,.sc (.int .i64))],[.box [.full 4,.sc (.int .i64),.sc (.int .i64)],.arr [.int .i64],.arr [.int .i64],.arr [.int .i64],.arr [.int .u8]]⟩ (fun ((i1,o6,o7,all2,lens,codes_,o8):Int×Int×Int×List Int×List Int×List Int×List Int)=>(19-i1).toNat+1) 2 ⟨[.int .i64,.int .i64,.list [.int .i64],.list [.int .i64],.list [.int .i64],.list [.int .u8]],[(0,.ptr 0 0),(6,.full 1),(9,.full 2),(10,.full 3)],[.box [.full 4,.sc (.int .i64),.sc (.int .i64)],.arr [.int .i64],.arr [.int .i64],.arr [.int .i64],.arr [.int .u8]]⟩ .u))) (.seq .u (.blk (.loop ⟨[.int .i64,.int .i64,.int .i64,.list [.int .i64],.list [.int .i64],.list [.int .i64],.list [.int .u8]],[(0,.ptr 0 0),(6,.full 1),(9,.full 2),(10,.full 3),(12,.sc (.int .i64))],[.box [.full 4,.sc (.int .i64),.sc (.int .i64)],.arr [.int .i64],.arr [.int .i64],.arr [.int .i64],.arr [.int .u8]]⟩ (fun ((i2,o12,o13,all4,lens2,codes_2,o14):Int×Int×Int×List Int×List Int×List Int×List Int)=>((all4.length:Int)-i2).toNat+1) 4 ⟨[.int .i64,.int .i64,.list [.int .u8]],[],[.box [.full 1,.sc (.int .i64),.sc (.int .i64)],.arr [.int .u8]]⟩ .u)))))))))))) Zct.S d=Zct.S.F d:=fun _=>by kernel_rfl
theorem Zct.sound:Zah Tryz.prog C0 248 Zct.S:=sE Za5 Zct.ev (Zai ⟨Zev.sound,Zc7.sound,ZaP.sound,ZnT.sound,ZdL.sound,trivial⟩) Tryz.func248
def ZjE.S:ZaI:=⟨0,[.sc .str],[],[.str],⟨[.str],.sc .str,[]⟩,
 fun (text:Str)=>ZjE text⟩
theorem ZjE.ev:∀d,Za2 C0 (hnd (tab [(239,Zev.S),(240,ZdU.S),(241,ZbS.S),(242,ZaL.S),(245,ZbD.S),(246,ZcN.S),(247,Zc7.S),(248,Zct.S)])) Tryz.f225 .u ZjE.S d=ZjE.S.F d:=fun _=>by kernel_rfl
theorem ZjE.sound:Zah Tryz.prog C0 225 ZjE.S:=sE Za5 ZjE.ev (Zai ⟨Zev.sound,ZdU.sound,ZbS.sound,ZaL.sound,ZbD.sound,ZcN.sound,Zc7.sound,Zct.sound,trivial⟩) Tryz.func225
def Zao.S:ZaI:=⟨0,[.sc .str],[],[.str],⟨[.str],.sc .str,[]⟩,
 fun (text:Str)=>Zao text⟩
theorem Zao.ev:∀d,Za2 C0 (hnd (tab [(223,ZeI.S),(224,ZeJ.S),(225,ZjE.S)])) Tryz.f194 (.seq .u (.seq .u (.seq .u (.seq .u (.seq (.seq .u (.blk (.loop ⟨[.str,.int .i64,.list [.str]],[(3,.sc .str),(4,.full 0),(5,.sc (.int .i64))],[.arr [.str]]⟩ (fun ((out,i,list):Str×Int×List Str)=>((list.length:Int)-i).toNat+1) 0 ⟨[.str],[(3,.sc .str)],[]⟩ .u))) .u))))) Zao.S d=Zao.S.F d:=fun _=>by kernel_rfl
theorem Zao.sound:Zah Tryz.prog C0 194 Zao.S:=sE Za5 Zao.ev (Zai ⟨ZeI.sound,ZeJ.sound,ZjE.sound,trivial⟩) Tryz.func194
def ZbY.S:ZaI:=⟨1,[.ptr 0 0,.full 1],[.box [.sc .str,.sc (.int .i64),.sc .bool],.arr [.int .u8]],[.str,.int .i64,.bool,.list [.int .u8]],⟨[.str,.int .i64,.bool,.list [.int .u8]],.full 1,[.box [.sc .str,.sc (.int .i64),.sc .bool],.arr [.int .u8]]⟩,
 fun ((s,at_,bad,text):Str×Int×Bool×List Int)=>ZbY s at_ bad text⟩
theorem ZbY.ev:∀d,Za2 C0 (hnd (tab [(238,Zc4.S),(259,Zfs.S)])) Tryz.f260 (.seq .u (.join ⟨[.str,.int .i64,.bool,.list [.int .u8]],[(0,.ptr 0 0),(1,.full 1)],[.box [.sc .str,.sc (.int .i64),.sc .bool],.arr [.int .u8]]⟩ .u (.seq .u (.join ⟨[.int .i64,.str,.int .i64,.bool,.list [.int .u8]],[(0,.ptr 0 0),(1,.full 1),(5,.sc (.int .i64))],[.box [.sc .str,.sc (.int .i64),.sc .bool],.arr [.int .u8]]⟩ .u (.seq (.seq .u (.blk (.loop ⟨[.int .i64,.int .i64,.str,.int .i64,.bool,.list [.int .u8]],[(0,.ptr 0 0),(1,.full 1),(5,.sc (.int .i64)),(6,.sc (.int .i64))],[.box [.sc .str,.sc (.int .i64),.sc .bool],.arr [.int .u8]]⟩ (fun ((n1,i,o6,o7,o8,text3):Int×Int×Str×Int×Bool×List Int)=>(n1-i).toNat+1) 0 ⟨[.str,.int .i64,.bool,.list [.int .u8]],[(1,.full 1)],[.box [.sc .str,.sc (.int .i64),.sc .bool],.arr [.int .u8]]⟩ (.seq (.seq (.reg [.bool] [(36,.sc .bool)]) .u) .u)))) .u))))) ZbY.S d=ZbY.S.F d:=fun _=>by kernel_rfl
theorem ZbY.sound:Zah Tryz.prog C0 260 ZbY.S:=sE Za5 ZbY.ev (Zai ⟨Zc4.sound,Zfs.sound,trivial⟩) Tryz.func260
def Zgn.S:ZaI:=⟨1,[.ptr 0 0,.full 1,.sc (.int .i64),.sc (.list [.int .i64]),.sc (.list [.int .i64])],[.box [.sc .str,.sc (.int .i64),.sc .bool],.arr [.int .u8]],[.int .i64,.list [.int .i64],.list [.int .i64],.str,.int .i64,.bool,.list [.int .u8]],⟨[.str,.int .i64,.bool,.list [.int .u8]],.full 1,[.box [.sc .str,.sc (.int .i64),.sc .bool],.arr [.int .u8]]⟩,
 fun ((sym,backs,codes_,s,at_,bad,text):Int×List Int×List Int×Str×Int×Bool×List Int)=>Zgn sym backs codes_ s at_ bad text⟩
theorem Zgn.ev:∀d,Za2 C0 (hnd (tab [(259,Zfs.S),(265,Zc6.S),(266,Zbc.S),(267,Zbd.S),(277,ZaX.S),(284,Ze4.S)])) Tryz.f278 (.seq .u (.seq .u (.seq .u (.seq (.cm [(2,[0]),(3,[0]),(4,[0])]) (.seq .u (.seq .u (.seq (.cm [(2,[0]),(3,[0]),(4,[0])]) .u))))))) Zgn.S d=Zgn.S.F d:=fun _=>by kernel_rfl
theorem Zgn.sound:Zah Tryz.prog C0 278 Zgn.S:=sE Za5 Zgn.ev (Zai ⟨Zfs.sound,Zc6.sound,Zbc.sound,Zbd.sound,ZaX.sound,Ze4.sound,trivial⟩) Tryz.func278
def Zcj.S:ZaI:=⟨1,[.ptr 0 0,.full 1,.sc (.list [.int .i64]),.sc (.list [.int .i64])],[.box [.sc .str,.sc (.int .i64),.sc .bool],.arr [.int .u8]],[.list [.int .i64],.list [.int .i64],.str,.int .i64,.bool,.list [.int .u8]],⟨[.str,.int .i64,.bool,.list [.int .u8]],.full 1,[.box [.sc .str,.sc (.int .i64),.sc .bool],.arr [.int .u8]]⟩,
 fun ((longs,backs,s,at_,bad,text):List Int×List Int×Str×Int×Bool×List Int)=>Zcj longs backs s at_ bad text⟩
theorem Zcj.ev:∀d,Za2 C0 (hnd (tab [(264,ZaP.S),(277,ZaX.S),(278,Zgn.S)])) Tryz.f261 (.seq .u (.seq .u (.seq .u (.seq (.blk (.loopS ⟨[.list [.int .i64],.list [.int .i64],.str,.int .i64,.bool,.list [.int .u8],.list [.int .i64],.list [.int .i64]],[(0,.ptr 0 0),(1,.full 1),(2,.sc (.list [.int .i64])),(3,.sc (.list [.int .i64])),(9,.full 2),(10,.full 3)],[.box [.sc .str,.sc (.int .i64),.sc .bool],.arr [.int .u8],.arr [.int .i64],.arr [.int .i64]]⟩ (fun ((longs1,backs1,o,o1,o2,text1,a,b):List Int×List Int×Str×Int×Bool×List Int×List Int×List Int)=>100000) 0 ⟨[.str,.int .i64,.bool,.list [.int .u8]],[(0,.ptr 0 0),(1,.full 1)],[.box [.sc .str,.sc (.int .i64),.sc .bool],.arr [.int .u8]]⟩ (.seq (.seq (.reg [.bool] [(25,.sc .bool)]) .u) (.blk (.seq .u (.blk (.seq (.reg [.bool] [(36,.sc .bool)]) .u))))))) .u)))) Zcj.S d=Zcj.S.F d:=fun _=>by kernel_rfl
theorem Zcj.sound:Zah Tryz.prog C0 261 Zcj.S:=sE Za5 Zcj.ev (Zai ⟨ZaP.sound,ZaX.sound,Zgn.sound,trivial⟩) Tryz.func261
def Zec.S:ZaI:=⟨1,[.ptr 0 0,.full 1,.sc (.int .i64)],[.box [.sc .str,.sc (.int .i64),.sc .bool],.arr [.int .i64]],[.int .i64,.str,.int .i64,.bool,.list [.int .i64]],⟨[.str,.int .i64,.bool,.list [.int .i64]],.full 1,[.box [.sc .str,.sc (.int .i64),.sc .bool],.arr [.int .i64]]⟩,
 fun ((sym,s,at_,bad,out):Int×Str×Int×Bool×List Int)=>Zec sym s at_ bad out⟩
theorem Zec.ev:∀d,Za2 C0 (hnd (tab [(259,Zfs.S)])) Tryz.f280 (.seq .u (.seq .u (.seq .u (.join ⟨[.int .i64,.int .i64,.str,.int .i64,.bool,.list [.int .i64]],[(0,.ptr 0 0),(1,.full 1),(7,.sc (.int .i64)),(8,.sc (.int .i64))],[.box [.sc .str,.sc (.int .i64),.sc .bool],.arr [.int .i64]]⟩ (.blk (.seq (.reg [.bool] [(11,.sc .bool)]) .u)) (.seq (.seq .u (.blk (.loop ⟨[.int .i64,.int .i64,.int .i64,.str,.int .i64,.bool,.list [.int .i64]],[(0,.ptr 0 0),(1,.full 1),(7,.sc (.int .i64)),(8,.sc (.int .i64)),(9,.sc (.int .i64))],[.box [.sc .str,.sc (.int .i64),.sc .bool],.arr [.int .i64]]⟩ (fun ((last1,n1,i,o3,o4,o5,out2):Int×Int×Int×Str×Int×Bool×List Int)=>(n1-i).toNat+1) 1 ⟨[.str,.int .i64,.bool,.list [.int .i64]],[(1,.full 1)],[.box [.sc .str,.sc (.int .i64),.sc .bool],.arr [.int .i64]]⟩ (.seq (.seq (.reg [.bool] [(55,.sc .bool)]) .u) .u)))) .u))))) Zec.S d=Zec.S.F d:=fun _=>by kernel_rfl
theorem Zec.sound:Zah Tryz.prog C0 280 Zec.S:=sE Za5 Zec.ev (Zai ⟨Zfs.sound,trivial⟩) Tryz.func280
def Zda.S:ZaI:=⟨1,[.ptr 0 0],[.box [.sc .str,.sc (.int .i64),.sc .bool]],[.str,.int .i64,.bool],⟨[.list [.int .i64],.list [.int .i64],.str,.int .i64,.bool],.tup [.sc (.list [.int .i64]),.sc (.list [.int .i64])],[.box [.sc .str,.sc (.int .i64),.sc .bool]]⟩,
 fun ((s,at_,bad):Str×Int×Bool)=>Zda s at_ bad⟩
theorem Zda.ev:∀d,Za2 C0 (hnd (tab [(259,Zfs.S),(264,ZaP.S),(274,ZdL.S),(277,ZaX.S),(279,ZaU.S),(280,Zec.S)])) Tryz.f262 (.seq .u (.seq .u (.seq .u (.seq .u (.seq .u (.seq (.seq .u (.blk (.loop ⟨[.int .i64,.int .i64,.int .i64,.int .i64,.str,.int .i64,.bool,.list [.int .i64]],[(0,.ptr 0 0),(4,.sc (.int .i64)),(5,.sc (.int .i64)),(6,.sc (.int .i64)),(7,.full 1),(8,.sc (.int .i64))],[.box [.sc .str,.sc (.int .i64),.sc .bool],.arr [.int .i64]]⟩ (fun ((long,back,n,i,o,o1,o2,lens):Int×Int×Int×Int×Str×Int×Bool×List Int)=>(n-i).toNat+1) 0 ⟨[.int .i64,.int .i64,.str,.int .i64,.bool,.list [.int .i64]],[(0,.ptr 0 0),(4,.sc (.int .i64)),(5,.sc (.int .i64)),(7,.full 1)],[.box [.sc .str,.sc (.int .i64),.sc .bool],.arr [.int .i64]]⟩ (.seq .u (.seq (.blk (.cm [(0,[0]),(2,[0]),(3,[0]),(4,[0])])) .u))))) (.seq (.seq (.reg [.bool] [(44,.sc .bool)]) .u) (.seq .u (.seq .u (.seq (.blk (.loop ⟨[.int .i64,.int .i64,.str,.int .i64,.bool,.list [.int .i64],.list [.int .i64],.list [.int .i64]],[(0,.ptr 0 0),(4,.sc (.int .i64)),(5,.sc (.int .i64)),(7,.full 1),(9,.full 2),(10,.full 3)],[.box [.sc .str,.sc (.int .i64),.sc .bool],.arr [.int .i64],.arr [.int .i64],.arr [.int .i64]]⟩ (fun ((long2,back2,o6,o7,o8,lens2,codes_,all):Int×Int×Str×Int×Bool×List Int×List Int×List Int)=>((w64 (long2+back2))-(all.length:Int)).toNat+1) 2 ⟨[.int .i64,.int .i64,.str,.int .i64,.bool,.list [.int .i64]],[(0,.ptr 0 0),(4,.sc (.int .i64)),(5,.sc (.int .i64)),(10,.full 1)],[.box [.sc .str,.sc (.int .i64),.sc .bool],.arr [.int .i64]]⟩ (.seq (.seq (.reg [.bool] [(65,.sc .bool)]) .u) .u))) (.seq (.seq (.reg [.bool] [(98,.sc .bool)]) .u) .u))))))))))) Zda.S d=Zda.S.F d:=fun _=>by kernel_rfl
theorem Zda.sound:Zah Tryz.prog C0 262 Zda.S:=sE Za5 Zda.ev (Zai ⟨Zfs.sound,ZaP.sound,ZdL.sound,ZaX.sound,ZaU.sound,Zec.sound,trivial⟩) Tryz.func262
def Zjr.S:ZaI:=⟨1,[.ptr 0 0,.full 1],[.box [.sc .str,.sc (.int .i64),.sc .bool],.arr [.int .u8]],[.str,.int .i64,.bool,.list [.int .u8]],⟨[.bool,.str,.int .i64,.bool,.list [.int .u8]],.tup [.full 1,.sc .bool],[.box [.sc .str,.sc (.int .i64),.sc .bool],.arr [.int .u8]]⟩,
 fun ((s,at_,bad,text):Str×Int×Bool×List Int)=>Zjr s at_ bad text⟩
theorem Zjr.ev:∀d,Za2 C0 (hnd (tab [(243,Zdb.S),(244,Zdc.S),(258,Zkn.S),(259,Zfs.S),(260,ZbY.S),(261,Zcj.S),(262,Zda.S)])) Tryz.f237 .u Zjr.S d=Zjr.S.F d:=fun _=>by kernel_rfl
theorem Zjr.sound:Zah Tryz.prog C0 237 Zjr.S:=sE Za5 Zjr.ev (Zai ⟨Zdb.sound,Zdc.sound,Zkn.sound,Zfs.sound,ZbY.sound,Zcj.sound,Zda.sound,trivial⟩) Tryz.func237
def ZeR.S:ZaI:=⟨0,[.sc .str],[],[.str],⟨[.str,.int .i64,.bool],.tup [.sc .str,.sc (.int .i64),.sc .bool],[]⟩,
 fun (text:Str)=>ZeR text⟩
theorem ZeR.ev:∀d,Za2 C0 (hnd (tab [(237,Zjr.S),(238,Zc4.S)])) Tryz.f220 (.seq .u (.seq .u (.seq .u (.seq .u (.seq (.blk (.loop ⟨[.bool,.str,.int .i64,.bool,.list [.int .u8]],[(5,.ptr 0 0),(6,.full 1),(7,.sc .bool)],[.box [.sc .str,.sc (.int .i64),.sc .bool],.arr [.int .u8]]⟩ (fun ((last,o,o1,o2,out):Bool×Str×Int×Bool×List Int)=>100000) 0 ⟨[.str,.int .i64,.bool,.list [.int .u8]],[(5,.ptr 0 0),(6,.full 1)],[.box [.sc .str,.sc (.int .i64),.sc .bool],.arr [.int .u8]]⟩ (.seq (.seq (.reg [.bool] [(23,.sc .bool)]) .u) .u))) (.seq .u (.seq (.seq (.reg [.bool] [(46,.sc .bool)]) .u) .u))))))) ZeR.S d=ZeR.S.F d:=fun _=>by kernel_rfl
theorem ZeR.sound:Zah Tryz.prog C0 220 ZeR.S:=sE Za5 ZeR.ev (Zai ⟨Zjr.sound,Zc4.sound,trivial⟩) Tryz.func220
def Zbx.S:ZaI:=⟨0,[.sc .str],[],[.str],⟨[.str,.int .i64,.bool],.tup [.sc .str,.sc (.int .i64),.sc .bool],[]⟩,
 fun (text:Str)=>Zbx text⟩
theorem Zbx.ev:∀d,Za2 C0 (hnd (tab [(220,ZeR.S)])) Tryz.f186 .u Zbx.S d=Zbx.S.F d:=fun _=>by kernel_rfl
theorem Zbx.sound:Zah Tryz.prog C0 186 Zbx.S:=sE Za5 Zbx.ev (Zai ⟨ZeR.sound,trivial⟩) Tryz.func186
def Zg2.S:ZaI:=⟨0,[.sc (.int .i64),.sc (.int .i64)],[],[.int .i64,.int .i64],⟨[.int .i64],.sc (.int .i64),[]⟩,
 fun ((year,month):Int×Int)=>Zg2 year month⟩
theorem Zg2.ev:∀d,Za2 C0 (hnd (tab [])) Tryz.f149 (.seq .u (.seq (.seq .u (.blk (.join ⟨[.int .i64,.int .i64,.bool],[(0,.sc (.int .i64)),(5,.sc (.int .i64)),(6,.sc .bool)],[]⟩ .u (.cond .u (.seq .u (.cond (.seq (.seq (.reg [.bool] [(25,.sc .bool)]) .u) .u) .u)))))) .u)) Zg2.S d=Zg2.S.F d:=fun _=>by kernel_rfl
theorem Zg2.sound:Zah Tryz.prog C0 149 Zg2.S:=sE Za5 Zg2.ev (Zai trivial) Tryz.func149
def Zb6.S:ZaI:=⟨0,[.agg [.sc (.int .i64),.sc (.int .i64),.sc (.int .i64),.sc (.int .i64),.sc (.int .i64),.sc (.int .i64)]],[],[.int .i64,.int .i64,.int .i64,.int .i64,.int .i64,.int .i64],⟨[.bool],.sc .bool,[]⟩,
 fun ((y,mo,d,h,mi,sec):Int×Int×Int×Int×Int×Int)=>Zb6 y mo d h mi sec⟩
theorem Zb6.ev:∀d,Za2 C0 (hnd (tab [(116,ZhH.S),(149,Zg2.S)])) Tryz.f106 (.seq .u (.seq (.reg [.bool] [(3,.sc .bool)]) (.seq (.reg [.bool] [(2,.sc .bool)]) .u))) Zb6.S d=Zb6.S.F d:=fun _=>by kernel_rfl
theorem Zb6.sound:Zah Tryz.prog C0 106 Zb6.S:=sE Za5 Zb6.ev (Zai ⟨ZhH.sound,Zg2.sound,trivial⟩) Tryz.func106
def ZjC.S:ZaI:=⟨0,[.agg [.sc (.int .i64),.sc (.int .i64),.sc (.int .i64),.sc (.int .i64),.sc (.int .i64),.sc (.int .i64)]],[],[.int .i64,.int .i64,.int .i64,.int .i64,.int .i64,.int .i64],⟨[.int .i64],.sc (.int .i64),[]⟩,
 fun ((y,mo,d,h,mi,sec):Int×Int×Int×Int×Int×Int)=>ZjC y mo d h mi sec⟩
theorem ZjC.ev:∀d,Za2 C0 (hnd (tab [])) Tryz.f193 .u ZjC.S d=ZjC.S.F d:=fun _=>by kernel_rfl
theorem ZjC.sound:Zah Tryz.prog C0 193 ZjC.S:=sE Za5 ZjC.ev (Zai trivial) Tryz.func193
def ZjD.S:ZaI:=⟨0,[.sc (.int .i64)],[],[.int .i64],⟨[.int .i64,.int .i64,.int .i64,.int .i64,.int .i64,.int .i64],.agg [.sc (.int .i64),.sc (.int .i64),.sc (.int .i64),.sc (.int .i64),.sc (.int .i64),.sc (.int .i64)],[]⟩,
 fun (n:Int)=>ZjD n⟩
theorem ZjD.ev:∀d,Za2 C0 (hnd (tab [])) Tryz.f153 .u ZjD.S d=ZjD.S.F d:=fun _=>by kernel_rfl
theorem ZjD.sound:Zah Tryz.prog C0 153 ZjD.S:=sE Za5 ZjD.ev (Zai trivial) Tryz.func153
def ZaM.S:ZaI:=⟨0,[.agg [.sc .str,.sc (.int .i64),.sc (.int .i64),.sc (.int .i64),.sc (.int .i64),.sc (.int .i64),.sc (.int .i64),.sc .str]],[],[.str,.int .i64,.int .i64,.int .i64,.int .i64,.int .i64,.int .i64,.str],⟨[.bool],.sc .bool,[]⟩,
 fun ((name,y,mo,d,h,mi,sec,text):Str×Int×Int×Int×Int×Int×Int×Str)=>ZaM name y mo d h mi sec text⟩
theorem ZaM.ev:∀d,Za2 C0 (hnd (tab [(94,Zaq.S),(106,Zb6.S)])) Tryz.f100 (.seq .u (.seq (.reg [.bool] [(2,.sc .bool)]) .u)) ZaM.S d=ZaM.S.F d:=fun _=>by kernel_rfl
theorem ZaM.sound:Zah Tryz.prog C0 100 ZaM.S:=sE Za5 ZaM.ev (Zai ⟨Zaq.sound,Zb6.sound,trivial⟩) Tryz.func100
def Zaw.S:ZaI:=⟨0,[.sc (.int .i64),.sc (.int .i64)],[],[.int .i64,.int .i64],⟨[.str],.sc .str,[]⟩,
 fun ((n,many):Int×Int)=>Zaw n many⟩
theorem Zaw.ev:∀d,Za2 C0 (hnd (tab [])) Tryz.f152 (.seq .u (.seq .u (.seq (.seq .u (.blk (.loop ⟨[.int .i64,.int .i64,.int .i64,.list [.int .u8]],[(0,.sc (.int .i64)),(1,.sc (.int .i64)),(5,.full 0),(6,.sc (.int .i64))],[.arr [.int .u8]]⟩ (fun ((n1,many1,i,out):Int×Int×Int×List Int)=>(many1-i).toNat+1) 0 ⟨[.list [.int .u8]],[(5,.full 0)],[.arr [.int .u8]]⟩ .u))) .u))) Zaw.S d=Zaw.S.F d:=fun _=>by kernel_rfl
theorem Zaw.sound:Zah Tryz.prog C0 152 Zaw.S:=sE Za5 Zaw.ev (Zai trivial) Tryz.func152
def Zcp.S:ZaI:=⟨0,[.sc .str,.sc (.int .i64),.sc (.int .i64)],[],[.str,.int .i64,.int .i64],⟨[.int .i64],.sc (.int .i64),[]⟩,
 fun ((s,at_,many):Str×Int×Int)=>Zcp s at_ many⟩
theorem Zcp.ev:∀d,Za2 C0 (hnd (tab [])) Tryz.f115 (.seq .u (.seq .u (.seq (.seq (.reg [.bool] [(18,.sc .bool)]) .u) (.seq (.seq .u (.blk (.loop ⟨[.str,.int .i64,.int .i64,.int .i64],[(0,.sc .str),(1,.sc (.int .i64)),(7,.sc (.int .i64)),(8,.sc (.int .i64))],[]⟩ (fun ((s1,at_1,n,i):Str×Int×Int×Int)=>(i-0).toNat+2) 0 ⟨[.int .i64],[(7,.sc (.int .i64))],[]⟩ .u))) .u)))) Zcp.S d=Zcp.S.F d:=fun _=>by kernel_rfl
theorem Zcp.sound:Zah Tryz.prog C0 115 Zcp.S:=sE Za5 Zcp.ev (Zai trivial) Tryz.func115
def ZhG.S:ZaI:=⟨0,[.sc .str],[],[.str],⟨[.int .i64,.str],.tup [.sc (.int .i64),.sc .str],[]⟩,
 fun (text:Str)=>ZhG text⟩
theorem ZhG.ev:∀d,Za2 C0 (hnd (tab [(194,Zao.S)])) Tryz.f167 .u ZhG.S d=ZhG.S.F d:=fun _=>by kernel_rfl
theorem ZhG.sound:Zah Tryz.prog C0 167 ZhG.S:=sE Za5 ZhG.ev (Zai ⟨Zao.sound,trivial⟩) Tryz.func167
def ZcY.S:ZaI:=⟨0,[.agg [.sc .str,.sc (.int .i64),.sc (.int .i64),.sc (.int .i64),.sc (.int .i64),.sc (.int .i64),.sc (.int .i64),.sc .str]],[],[.str,.int .i64,.int .i64,.int .i64,.int .i64,.int .i64,.int .i64,.str],⟨[.str],.sc .str,[]⟩,
 fun ((name,y,mo,d,h,mi,sec,text):Str×Int×Int×Int×Int×Int×Int×Str)=>ZcY name y mo d h mi sec text⟩
theorem ZcY.ev:∀d,Za2 C0 (hnd (tab [(152,Zaw.S),(155,ZdK.S),(167,ZhG.S),(193,ZjC.S)])) Tryz.f166 .u ZcY.S d=ZcY.S.F d:=fun _=>by kernel_rfl
theorem ZcY.sound:Zah Tryz.prog C0 166 ZcY.S:=sE Za5 ZcY.ev (Zai ⟨Zaw.sound,ZdK.sound,ZhG.sound,ZjC.sound,trivial⟩) Tryz.func166
def ZeH.S:ZaI:=⟨0,[.agg [.sc .str,.sc (.int .i64),.sc (.int .i64),.sc (.int .i64),.sc (.int .i64),.sc (.int .i64),.sc (.int .i64),.sc .str]],[],[.str,.int .i64,.int .i64,.int .i64,.int .i64,.int .i64,.int .i64,.str],⟨[.str],.sc .str,[]⟩,
 fun ((name,y,mo,d,h,mi,sec,text):Str×Int×Int×Int×Int×Int×Int×Str)=>ZeH name y mo d h mi sec text⟩
theorem ZeH.ev:∀d,Za2 C0 (hnd (tab [(152,Zaw.S),(166,ZcY.S),(167,ZhG.S)])) Tryz.f127 .u ZeH.S d=ZeH.S.F d:=fun _=>by kernel_rfl
theorem ZeH.sound:Zah Tryz.prog C0 127 ZeH.S:=sE Za5 ZeH.ev (Zai ⟨Zaw.sound,ZcY.sound,ZhG.sound,trivial⟩) Tryz.func127
def Zgs.S:ZaI:=⟨0,[.sc (.int .i64),.sc .str],[],[.int .i64,.str],⟨[.str,.bool],.tup [.sc .str,.sc .bool],[]⟩,
 fun ((how,packed):Int×Str)=>Zgs how packed⟩
theorem Zgs.ev:∀d,Za2 C0 (hnd (tab [(186,Zbx.S)])) Tryz.f154 (.seq .u (.seq .u (.seq .u (.seq (.reg [.str,.bool] [(4,.sc .str),(5,.sc .bool)]) .u)))) Zgs.S d=Zgs.S.F d:=fun _=>by kernel_rfl
theorem Zgs.sound:Zah Tryz.prog C0 154 Zgs.S:=sE Za5 Zgs.ev (Zai ⟨Zbx.sound,trivial⟩) Tryz.func154
def ZeV.S:ZaI:=⟨0,[.sc .str],[],[.str],⟨[.str,.int .i64,.int .i64,.int .i64,.int .i64,.int .i64,.int .i64,.str,.int .i64,.bool],.tup [.agg [.sc .str,.sc (.int .i64),.sc (.int .i64),.sc (.int .i64),.sc (.int .i64),.sc (.int .i64),.sc (.int .i64),.sc .str],.sc (.int .i64),.sc .bool],[]⟩,
 fun (text:Str)=>ZeV text⟩
theorem ZeV.ev:∀d,Za2 C0 (hnd (tab [(100,ZaM.S),(115,Zcp.S),(153,ZjD.S),(154,Zgs.S),(155,ZdK.S)])) Tryz.f120 (.seq .u (.seq .u (.seq .u (.seq (.reg [.bool] [(7,.sc .bool)]) (.seq (.seq (.reg [.bool] [(51,.sc .bool)]) .u) (.seq .u (.seq .u (.seq .u (.seq (.reg [.bool] [(10,.sc .bool)]) (.seq (.cm [(1,[0]),(2,[0]),(3,[0]),(4,[0]),(9,[0])]) .u)))))))))) ZeV.S d=ZeV.S.F d:=fun _=>by kernel_rfl
theorem ZeV.sound:Zah Tryz.prog C0 120 ZeV.S:=sE Za5 ZeV.ev (Zai ⟨ZaM.sound,Zcp.sound,ZjD.sound,Zgs.sound,ZdK.sound,trivial⟩) Tryz.func120
def Zgd.S:ZaI:=⟨0,[.sc (.list [.str,.int .i64,.int .i64,.int .i64,.int .i64,.int .i64,.int .i64,.str]),.sc .str],[],[.list [.str,.int .i64,.int .i64,.int .i64,.int .i64,.int .i64,.int .i64,.str],.str],⟨[.int .i64],.sc (.int .i64),[]⟩,
 fun ((list,name):(List (Str×Int×Int×Int×Int×Int×Int×Str))×Str)=>Zgd list name⟩
theorem Zgd.ev:∀d,Za2 C0 (hnd (tab [])) Tryz.f86 (.seq .u (.seq (.seq .u (.blk (.loopS ⟨[.list [.str,.int .i64,.int .i64,.int .i64,.int .i64,.int .i64,.int .i64,.str],.str,.int .i64],[(0,.sc (.list [.str,.int .i64,.int .i64,.int .i64,.int .i64,.int .i64,.int .i64,.str])),(1,.sc .str),(5,.sc (.int .i64))],[]⟩ (fun ((list1,name1,i):(List (Str×Int×Int×Int×Int×Int×Int×Str))×Str×Int)=>((list1.length:Int)-i).toNat+1) 0 ⟨[],[],[]⟩ .u))) .u)) Zgd.S d=Zgd.S.F d:=fun _=>by kernel_rfl
theorem Zgd.sound:Zah Tryz.prog C0 86 Zgd.S:=sE Za5 Zgd.ev (Zai trivial) Tryz.func86
end Ev
end
section
open Go Go.Proofs
set_option maxRecDepth 100000
namespace Ev
set_option maxHeartbeats 1000000
def ZaF.S:ZaI:=⟨0,[.sc (.list [.str,.int .i64,.int .i64,.int .i64,.int .i64,.int .i64,.int .i64,.str])],[],[.list [.str,.int .i64,.int .i64,.int .i64,.int .i64,.int .i64,.int .i64,.str]],⟨[.bool],.sc .bool,[]⟩,
 fun (list:List (Str×Int×Int×Int×Int×Int×Int×Str))=>ZaF list⟩
theorem ZaF.ev:∀d,Za2 C0 (hnd (tab [(86,Zgd.S),(100,ZaM.S),(107,ZdA.S)])) Tryz.f118 (.seq .u (.seq (.seq .u (.blk (.loopS ⟨[.list [.str,.int .i64,.int .i64,.int .i64,.int .i64,.int .i64,.int .i64,.str],.int .i64],[(0,.sc (.list [.str,.int .i64,.int .i64,.int .i64,.int .i64,.int .i64,.int .i64,.str])),(3,.sc (.int .i64))],[]⟩ (fun ((list1,i):(List (Str×Int×Int×Int×Int×Int×Int×Str))×Int)=>((list1.length:Int)-i).toNat+1) 0 ⟨[.list [.str,.int .i64,.int .i64,.int .i64,.int .i64,.int .i64,.int .i64,.str]],[(0,.sc (.list [.str,.int .i64,.int .i64,.int .i64,.int .i64,.int .i64,.int .i64,.str]))],[]⟩ (.seq .u (.seq (.blk (.seq (.seq (.reg [.bool] [(27,.sc .bool)]) .u) (.seq .u (.blk (.loopS ⟨[.list [.str,.int .i64,.int .i64,.int .i64,.int .i64,.int .i64,.int .i64,.str],.int .i64,.int .i64],[(0,.sc (.list [.str,.int .i64,.int .i64,.int .i64,.int .i64,.int .i64,.int .i64,.str])),(3,.sc (.int .i64)),(4,.sc (.int .i64))],[]⟩ (fun ((list2,i1,k):(List (Str×Int×Int×Int×Int×Int×Int×Str))×Int×Int)=>((list2.length:Int)-k).toNat+1) 2 ⟨[.list [.str,.int .i64,.int .i64,.int .i64,.int .i64,.int .i64,.int .i64,.str],.int .i64],[(0,.sc (.list [.str,.int .i64,.int .i64,.int .i64,.int .i64,.int .i64,.int .i64,.str])),(3,.sc (.int .i64))],[]⟩ .u))))) .u))))) .u)) ZaF.S d=ZaF.S.F d:=fun _=>by kernel_rfl
theorem ZaF.sound:Zah Tryz.prog C0 118 ZaF.S:=sE Za5 ZaF.ev (Zai ⟨Zgd.sound,ZaM.sound,ZdA.sound,trivial⟩) Tryz.func118
def Zc5.S:ZaI:=⟨0,[.agg [.sc .str,.sc (.int .i64),.sc (.int .i64),.sc (.int .i64),.sc (.int .i64),.sc (.int .i64),.sc (.int .i64),.sc .str],.sc (.int .i64)],[],[.str,.int .i64,.int .i64,.int .i64,.int .i64,.int .i64,.int .i64,.str,.int .i64],⟨[.str],.sc .str,[]⟩,
 fun ((name,y,mo,d,h,mi,sec,text,at_):Str×Int×Int×Int×Int×Int×Int×Str×Int)=>Zc5 name y mo d h mi sec text at_⟩
theorem Zc5.ev:∀d,Za2 C0 (hnd (tab [(152,Zaw.S),(166,ZcY.S)])) Tryz.f126 .u Zc5.S d=Zc5.S.F d:=fun _=>by kernel_rfl
theorem Zc5.sound:Zah Tryz.prog C0 126 Zc5.S:=sE Za5 Zc5.ev (Zai ⟨Zaw.sound,ZcY.sound,trivial⟩) Tryz.func126
def ZhF.S:ZaI:=⟨0,[.sc (.int .i64),.sc (.int .i64),.sc (.int .i64)],[],[.int .i64,.int .i64,.int .i64],⟨[.str],.sc .str,[]⟩,
 fun ((many,long,at_):Int×Int×Int)=>ZhF many long at_⟩
theorem ZhF.ev:∀d,Za2 C0 (hnd (tab [(152,Zaw.S)])) Tryz.f121 .u ZhF.S d=ZhF.S.F d:=fun _=>by kernel_rfl
theorem ZhF.sound:Zah Tryz.prog C0 121 ZhF.S:=sE Za5 ZhF.ev (Zai ⟨Zaw.sound,trivial⟩) Tryz.func121
def ZcL.S:ZaI:=⟨0,[.sc (.list [.str,.int .i64,.int .i64,.int .i64,.int .i64,.int .i64,.int .i64,.str])],[],[.list [.str,.int .i64,.int .i64,.int .i64,.int .i64,.int .i64,.int .i64,.str]],⟨[.str],.sc .str,[]⟩,
 fun (list:List (Str×Int×Int×Int×Int×Int×Int×Str))=>ZcL list⟩
theorem ZcL.ev:∀d,Za2 C0 (hnd (tab [(121,ZhF.S),(126,Zc5.S),(127,ZeH.S)])) Tryz.f75 (.seq .u (.seq .u (.seq .u (.seq (.seq .u (.blk (.loop ⟨[.list [.str,.int .i64,.int .i64,.int .i64,.int .i64,.int .i64,.int .i64,.str],.str,.str,.int .i64],[(0,.sc (.list [.str,.int .i64,.int .i64,.int .i64,.int .i64,.int .i64,.int .i64,.str])),(3,.sc .str),(4,.sc .str),(5,.sc (.int .i64))],[]⟩ (fun ((list1,out,heads,i):(List (Str×Int×Int×Int×Int×Int×Int×Str))×Str×Str×Int)=>((list1.length:Int)-i).toNat+1) 0 ⟨[.list [.str,.int .i64,.int .i64,.int .i64,.int .i64,.int .i64,.int .i64,.str],.str,.str],[(0,.sc (.list [.str,.int .i64,.int .i64,.int .i64,.int .i64,.int .i64,.int .i64,.str])),(3,.sc .str),(4,.sc .str)],[]⟩ .u))) .u)))) ZcL.S d=ZcL.S.F d:=fun _=>by kernel_rfl
theorem ZcL.sound:Zah Tryz.prog C0 75 ZcL.S:=sE Za5 ZcL.ev (Zai ⟨ZhF.sound,Zc5.sound,ZeH.sound,trivial⟩) Tryz.func75
def Zfl.S:ZaI:=⟨0,[.sc .str,.sc (.int .i64)],[],[.str,.int .i64],⟨[.int .i64,.bool,.list [.str,.int .i64,.int .i64,.int .i64,.int .i64,.int .i64,.int .i64,.str]],.tup [.full 0,.sc (.int .i64),.sc .bool],[.arr [.str,.int .i64,.int .i64,.int .i64,.int .i64,.int .i64,.int .i64,.str]]⟩,
 fun ((text,many):Str×Int)=>Zfl text many⟩
theorem Zfl.ev:∀d,Za2 C0 (hnd (tab [(120,ZeV.S)])) Tryz.f117 (.seq .u (.seq .u (.seq .u (.seq (.seq .u (.blk (.loopS ⟨[.str,.int .i64,.int .i64,.int .i64,.list [.str,.int .i64,.int .i64,.int .i64,.int .i64,.int .i64,.int .i64,.str]],[(0,.sc .str),(1,.sc (.int .i64)),(7,.full 0),(8,.sc (.int .i64)),(9,.sc (.int .i64))],[.arr [.str,.int .i64,.int .i64,.int .i64,.int .i64,.int .i64,.int .i64,.str]]⟩ (fun ((text1,many1,at_,i,out):Str×Int×Int×Int×List (Str×Int×Int×Int×Int×Int×Int×Str))=>(many1-i).toNat+1) 0 ⟨[.int .i64,.list [.str,.int .i64,.int .i64,.int .i64,.int .i64,.int .i64,.int .i64,.str]],[(7,.full 0),(8,.sc (.int .i64))],[.arr [.str,.int .i64,.int .i64,.int .i64,.int .i64,.int .i64,.int .i64,.str]]⟩ .u))) .u)))) Zfl.S d=Zfl.S.F d:=fun _=>by kernel_rfl
theorem Zfl.sound:Zah Tryz.prog C0 117 Zfl.S:=sE Za5 Zfl.ev (Zai ⟨ZeV.sound,trivial⟩) Tryz.func117
def Zgr.S:ZaI:=⟨0,[.sc .str,.sc (.int .i64),.sc (.int .i64)],[],[.str,.int .i64,.int .i64],⟨[.int .i64,.bool],.tup [.sc (.int .i64),.sc .bool],[]⟩,
 fun ((text,head,at_):Str×Int×Int)=>Zgr text head at_⟩
theorem Zgr.ev:∀d,Za2 C0 (hnd (tab [(115,Zcp.S),(152,Zaw.S)])) Tryz.f119 (.seq .u (.seq .u (.seq .u (.seq (.seq (.reg [.bool] [(36,.sc .bool)]) .u) (.seq (.reg [.bool] [(10,.sc .bool)]) (.seq (.reg [.bool] [(11,.sc .bool)]) (.seq (.reg [.int .i64,.bool] [(6,.sc (.int .i64)),(7,.sc .bool)]) .u))))))) Zgr.S d=Zgr.S.F d:=fun _=>by kernel_rfl
theorem Zgr.sound:Zah Tryz.prog C0 119 Zgr.S:=sE Za5 Zgr.ev (Zai ⟨Zcp.sound,Zaw.sound,trivial⟩) Tryz.func119
def Zap.S:ZaI:=⟨0,[.sc .str],[],[.str],⟨[.bool,.list [.str,.int .i64,.int .i64,.int .i64,.int .i64,.int .i64,.int .i64,.str]],.tup [.full 0,.sc .bool],[.arr [.str,.int .i64,.int .i64,.int .i64,.int .i64,.int .i64,.int .i64,.str]]⟩,
 fun (text:Str)=>Zap text⟩
theorem Zap.ev:∀d,Za2 C0 (hnd (tab [(115,Zcp.S),(116,ZhH.S),(117,Zfl.S),(118,ZaF.S),(119,Zgr.S),(120,ZeV.S),(121,ZhF.S)])) Tryz.f58 (.seq .u (.seq .u (.seq .u (.seq .u (.seq (.seq (.reg [.bool] [(38,.sc .bool)]) .u) (.seq .u (.seq .u (.seq (.seq .u (.blk (.loopS ⟨[.str,.int .i64,.int .i64,.int .i64,.int .i64,.int .i64,.list [.str,.int .i64,.int .i64,.int .i64,.int .i64,.int .i64,.int .i64,.str]],[(0,.sc .str),(4,.sc (.int .i64)),(5,.full 0),(6,.sc (.int .i64)),(8,.sc (.int .i64)),(9,.sc (.int .i64)),(10,.sc (.int .i64))],[.arr [.str,.int .i64,.int .i64,.int .i64,.int .i64,.int .i64,.int .i64,.str]]⟩ (fun ((text1,many,at_,head,own,i,list):Str×Int×Int×Int×Int×Int×List (Str×Int×Int×Int×Int×Int×Int×Str))=>(many-i).toNat+1) 0 ⟨[.str,.int .i64,.int .i64,.int .i64,.list [.str,.int .i64,.int .i64,.int .i64,.int .i64,.int .i64,.int .i64,.str]],[(0,.sc .str),(4,.sc (.int .i64)),(5,.full 0),(6,.sc (.int .i64)),(8,.sc (.int .i64))],[.arr [.str,.int .i64,.int .i64,.int .i64,.int .i64,.int .i64,.int .i64,.str]]⟩ .u))) .u)))))))) Zap.S d=Zap.S.F d:=fun _=>by kernel_rfl
theorem Zap.sound:Zah Tryz.prog C0 58 Zap.S:=sE Za5 Zap.ev (Zai ⟨Zcp.sound,ZhH.sound,Zfl.sound,ZaF.sound,Zgr.sound,ZeV.sound,ZhF.sound,trivial⟩) Tryz.func58
def ZbU.S:ZaI:=⟨0,[.sc (.list [.str,.int .i64,.int .i64,.int .i64,.int .i64,.int .i64,.int .i64,.str]),.sc .str],[],[.list [.str,.int .i64,.int .i64,.int .i64,.int .i64,.int .i64,.int .i64,.str],.str],⟨[.bool],.sc .bool,[]⟩,
 fun ((list,name):(List (Str×Int×Int×Int×Int×Int×Int×Str))×Str)=>ZbU list name⟩
theorem ZbU.ev:∀d,Za2 C0 (hnd (tab [(107,ZdA.S)])) Tryz.f96 (.seq .u (.seq (.seq .u (.blk (.loopS ⟨[.list [.str,.int .i64,.int .i64,.int .i64,.int .i64,.int .i64,.int .i64,.str],.str,.int .i64],[(0,.sc (.list [.str,.int .i64,.int .i64,.int .i64,.int .i64,.int .i64,.int .i64,.str])),(1,.sc .str),(5,.sc (.int .i64))],[]⟩ (fun ((list1,name1,i):(List (Str×Int×Int×Int×Int×Int×Int×Str))×Str×Int)=>((list1.length:Int)-i).toNat+1) 0 ⟨[],[],[]⟩ (.seq .u (.seq (.blk (.seq (.reg [.bool] [(36,.sc .bool)]) .u)) .u))))) .u)) ZbU.S d=ZbU.S.F d:=fun _=>by kernel_rfl
theorem ZbU.sound:Zah Tryz.prog C0 96 ZbU.S:=sE Za5 ZbU.ev (Zai ⟨ZdA.sound,trivial⟩) Tryz.func96
def Zco.S:ZaI:=⟨0,[.sc (.list [.str,.int .i64,.int .i64,.int .i64,.int .i64,.int .i64,.int .i64,.str]),.sc (.int .i64)],[],[.list [.str,.int .i64,.int .i64,.int .i64,.int .i64,.int .i64,.int .i64,.str],.int .i64],⟨[.list [.str,.int .i64,.int .i64,.int .i64,.int .i64,.int .i64,.int .i64,.str]],.full 0,[.arr [.str,.int .i64,.int .i64,.int .i64,.int .i64,.int .i64,.int .i64,.str]]⟩,
 fun ((list,k):(List (Str×Int×Int×Int×Int×Int×Int×Str))×Int)=>Zco list k⟩
theorem Zco.ev:∀d,Za2 C0 (hnd (tab [])) Tryz.f87 .u Zco.S d=Zco.S.F d:=fun _=>by kernel_rfl
theorem Zco.sound:Zah Tryz.prog C0 87 Zco.S:=sE Za5 Zco.ev (Zai trivial) Tryz.func87
def Zgg.S:ZaI:=⟨0,[.full 0,.agg [.sc .str,.sc (.int .i64),.sc (.int .i64),.sc (.int .i64),.sc (.int .i64),.sc (.int .i64),.sc (.int .i64),.sc .str]],[.arr [.str,.int .i64,.int .i64,.int .i64,.int .i64,.int .i64,.int .i64,.str]],[.str,.int .i64,.int .i64,.int .i64,.int .i64,.int .i64,.int .i64,.str,.list [.str,.int .i64,.int .i64,.int .i64,.int .i64,.int .i64,.int .i64,.str]],⟨[.int .i64,.list [.str,.int .i64,.int .i64,.int .i64,.int .i64,.int .i64,.int .i64,.str]],.tup [.full 0,.sc (.int .i64)],[.arr [.str,.int .i64,.int .i64,.int .i64,.int .i64,.int .i64,.int .i64,.str]]⟩,
 fun ((name,y,mo,d,h,mi,sec,text,list):Str×Int×Int×Int×Int×Int×Int×Str×List (Str×Int×Int×Int×Int×Int×Int×Str))=>Zgg name y mo d h mi sec text list⟩
theorem Zgg.ev:∀d,Za2 C0 (hnd (tab [(96,ZbU.S),(100,ZaM.S)])) Tryz.f74 .u Zgg.S d=Zgg.S.F d:=fun _=>by kernel_rfl
theorem Zgg.sound:Zah Tryz.prog C0 74 Zgg.S:=sE Za5 Zgg.ev (Zai ⟨ZbU.sound,ZaM.sound,trivial⟩) Tryz.func74
def ZbJ.S:ZaI:=⟨0,[.sc .str,.agg [.sc .str,.sc (.int .i64),.sc (.int .i64),.sc (.int .i64),.sc (.int .i64),.sc (.int .i64),.sc (.int .i64),.sc .str]],[],[.str,.str,.int .i64,.int .i64,.int .i64,.int .i64,.int .i64,.int .i64,.str],⟨[.str,.int .i64],.tup [.sc .str,.sc (.int .i64)],[]⟩,
 fun ((text,ename,ey,emo,ed,eh,emi,esec,etext):Str×Str×Int×Int×Int×Int×Int×Int×Str)=>ZbJ text ename ey emo ed eh emi esec etext⟩
theorem ZbJ.ev:∀d,Za2 C0 (hnd (tab [(58,Zap.S),(74,Zgg.S),(75,ZcL.S)])) Tryz.f38 .u ZbJ.S d=ZbJ.S.F d:=fun _=>by kernel_rfl
theorem ZbJ.sound:Zah Tryz.prog C0 38 ZbJ.S:=sE Za5 ZbJ.ev (Zai ⟨Zap.sound,Zgg.sound,ZcL.sound,trivial⟩) Tryz.func38
def Zb5.S:ZaI:=⟨0,[.sc .str,.sc .str],[],[.str,.str],⟨[.str,.int .i64],.tup [.sc .str,.sc (.int .i64)],[]⟩,
 fun ((text,name):Str×Str)=>Zb5 text name⟩
theorem Zb5.ev:∀d,Za2 C0 (hnd (tab [(58,Zap.S),(75,ZcL.S),(86,Zgd.S),(87,Zco.S)])) Tryz.f31 .u Zb5.S d=Zb5.S.F d:=fun _=>by kernel_rfl
theorem Zb5.sound:Zah Tryz.prog C0 31 Zb5.S:=sE Za5 Zb5.ev (Zai ⟨Zap.sound,ZcL.sound,Zgd.sound,Zco.sound,trivial⟩) Tryz.func31
def Zfy.S:ZaI:=⟨0,[.sc .str,.sc .bool],[],[.str,.bool],⟨[.str],.sc .str,[]⟩,
 fun ((text,ok):Str×Bool)=>Zfy text ok⟩
theorem Zfy.ev:∀d,Za2 C0 (hnd (tab [])) Tryz.f95 .u Zfy.S d=Zfy.S.F d:=fun _=>by kernel_rfl
theorem Zfy.sound:Zah Tryz.prog C0 95 Zfy.S:=sE Za5 Zfy.ev (Zai trivial) Tryz.func95
def Zb3.S:ZaI:=⟨0,[.sc .str,.agg [.sc .str,.sc (.int .i64),.sc (.int .i64),.sc (.int .i64),.sc (.int .i64),.sc (.int .i64),.sc (.int .i64),.sc .str]],[],[.str,.str,.int .i64,.int .i64,.int .i64,.int .i64,.int .i64,.int .i64,.str],⟨[.str,.int .i64],.tup [.sc .str,.sc (.int .i64)],[]⟩,
 fun ((text,ename,ey,emo,ed,eh,emi,esec,etext):Str×Str×Int×Int×Int×Int×Int×Int×Str)=>Zb3 text ename ey emo ed eh emi esec etext⟩
theorem Zb3.ev:∀d,Za2 C0 (hnd (tab [(58,Zap.S),(75,ZcL.S),(86,Zgd.S),(95,Zfy.S),(100,ZaM.S)])) Tryz.f41 (.seq .u (.seq .u (.seq .u (.seq (.blk (.seq (.reg [.bool] [(18,.sc .bool)]) .u)) .u)))) Zb3.S d=Zb3.S.F d:=fun _=>by kernel_rfl
theorem Zb3.sound:Zah Tryz.prog C0 41 Zb3.S:=sE Za5 Zb3.ev (Zai ⟨Zap.sound,ZcL.sound,Zgd.sound,Zfy.sound,ZaM.sound,trivial⟩) Tryz.func41
def Zb4.S:ZaI:=⟨0,[.sc .str,.sc .str,.sc .str],[],[.str,.str,.str],⟨[.str,.int .i64],.tup [.sc .str,.sc (.int .i64)],[]⟩,
 fun ((text,name,to_):Str×Str×Str)=>Zb4 text name to_⟩
theorem Zb4.ev:∀d,Za2 C0 (hnd (tab [(58,Zap.S),(75,ZcL.S),(86,Zgd.S),(87,Zco.S),(94,Zaq.S),(95,Zfy.S),(96,ZbU.S)])) Tryz.f35 (.seq .u (.seq .u (.seq .u (.seq (.blk (.seq (.reg [.bool] [(19,.sc .bool)]) .u)) .u)))) Zb4.S d=Zb4.S.F d:=fun _=>by kernel_rfl
theorem Zb4.sound:Zah Tryz.prog C0 35 Zb4.S:=sE Za5 Zb4.ev (Zai ⟨Zap.sound,ZcL.sound,Zgd.sound,Zco.sound,Zaq.sound,Zfy.sound,ZbU.sound,trivial⟩) Tryz.func35
def ZaE.S:ZaI:=⟨0,[.sc .str,.sc .str],[],[.str,.str],⟨[.str,.int .i64],.tup [.sc .str,.sc (.int .i64)],[]⟩,
 fun ((a,b):Str×Str)=>ZaE a b⟩
theorem ZaE.ev:∀d,Za2 C0 (hnd (tab [(58,Zap.S),(74,Zgg.S),(75,ZcL.S)])) Tryz.f24 (.seq .u (.seq .u (.seq .u (.seq (.seq (.reg [.bool] [(28,.sc .bool)]) .u) (.seq (.seq .u (.blk (.loopS ⟨[.str,.int .i64,.list [.str,.int .i64,.int .i64,.int .i64,.int .i64,.int .i64,.int .i64,.str],.list [.str,.int .i64,.int .i64,.int .i64,.int .i64,.int .i64,.int .i64,.str]],[(0,.sc .str),(6,.full 0),(8,.full 1),(10,.sc (.int .i64))],[.arr [.str,.int .i64,.int .i64,.int .i64,.int .i64,.int .i64,.int .i64,.str],.arr [.str,.int .i64,.int .i64,.int .i64,.int .i64,.int .i64,.int .i64,.str]]⟩ (fun ((a1,i,out,list):Str×Int×(List (Str×Int×Int×Int×Int×Int×Int×Str))×List (Str×Int×Int×Int×Int×Int×Int×Str))=>((list.length:Int)-i).toNat+1) 0 ⟨[.list [.str,.int .i64,.int .i64,.int .i64,.int .i64,.int .i64,.int .i64,.str]],[(6,.full 0)],[.arr [.str,.int .i64,.int .i64,.int .i64,.int .i64,.int .i64,.int .i64,.str]]⟩ .u))) .u))))) ZaE.S d=ZaE.S.F d:=fun _=>by kernel_rfl
theorem ZaE.sound:Zah Tryz.prog C0 24 ZaE.S:=sE Za5 ZaE.ev (Zai ⟨Zap.sound,Zgg.sound,ZcL.sound,trivial⟩) Tryz.func24
def Zdu.S:ZaI:=⟨0,[.sc (.list [.int .u8])],[],[.list [.int .u8]],⟨[.list [.int .u8],.int .i64],.ptr 0 0,[.box [.sc (.list [.int .u8]),.sc (.int .i64)]]⟩,
 fun (code_:List Int)=>Zdu code_⟩
theorem Zdu.ev:∀d,Za2 C0 (hnd (tab [])) Tryz.f68 .u Zdu.S d=Zdu.S.F d:=fun _=>by kernel_rfl
theorem Zdu.sound:Zah Tryz.prog C0 68 Zdu.S:=sE Za5 Zdu.ev (Zai trivial) Tryz.func68
def pick.S:ZaI:=⟨1,[.ptr 0 0,.sc (.int .i64)],[.box [.sc (.list [.int .u8]),.sc (.int .i64)]],[.int .i64,.list [.int .u8],.int .i64],⟨[.int .i64,.list [.int .u8],.int .i64],.sc (.int .i64),[.box [.sc (.list [.int .u8]),.sc (.int .i64)]]⟩,
 fun ((n,b,p):Int×List Int×Int)=>pick n b p⟩
theorem pick.ev:∀d,Za2 C0 (hnd (tab [])) Tryz.f109 (.seq .u (.seq .u (.seq (.seq (.reg [.bool] [(24,.sc .bool)]) .u) .u))) pick.S d=pick.S.F d:=fun _=>by kernel_rfl
theorem pick.sound:Zah Tryz.prog C0 109 pick.S:=sE Za5 pick.ev (Zai trivial) Tryz.func109
def Zj7.S:ZaI:=⟨1,[.ptr 0 0,.sc (.list [.str])],[.box [.sc (.list [.int .u8]),.sc (.int .i64)]],[.list [.str],.list [.int .u8],.int .i64],⟨[.str,.list [.int .u8],.int .i64],.sc .str,[.box [.sc (.list [.int .u8]),.sc (.int .i64)]]⟩,
 fun ((xs,b,p):List Str×List Int×Int)=>Zj7 xs b p⟩
theorem Zj7.ev:∀d,Za2 C0 (hnd (tab [(109,pick.S)])) Tryz.f102 .u Zj7.S d=Zj7.S.F d:=fun _=>by kernel_rfl
theorem Zj7.sound:Zah Tryz.prog C0 102 Zj7.S:=sE Za5 Zj7.ev (Zai ⟨pick.sound,trivial⟩) Tryz.func102
def ZdF.S:ZaI:=⟨0,[.sc .str,.sc (.int .i64)],[],[.str,.int .i64],⟨[.str],.sc .str,[]⟩,
 fun ((s,n):Str×Int)=>ZdF s n⟩
theorem ZdF.ev:∀d,Za2 C0 (hnd (tab [])) Tryz.f184 (.seq .u (.seq .u (.seq (.blk (.loop ⟨[.str,.int .i64,.str],[(0,.sc .str),(1,.sc (.int .i64)),(5,.sc .str)],[]⟩ (fun ((s1,n1,out):Str×Int×Str)=>n1.toNat+1) 0 ⟨[.str],[(5,.sc .str)],[]⟩ .u)) .u))) ZdF.S d=ZdF.S.F d:=fun _=>by kernel_rfl
theorem ZdF.sound:Zah Tryz.prog C0 184 ZdF.S:=sE Za5 ZdF.ev (Zai trivial) Tryz.func184
def Zb0.S:ZaI:=⟨1,[.ptr 0 0],[.box [.sc (.list [.int .u8]),.sc (.int .i64)]],[.list [.int .u8],.int .i64],⟨[.str,.list [.int .u8],.int .i64],.sc .str,[.box [.sc (.list [.int .u8]),.sc (.int .i64)]]⟩,
 fun ((b,p):List Int×Int)=>Zb0 b p⟩
theorem Zb0.ev:∀d,Za2 C0 (hnd (tab [(102,Zj7.S),(109,pick.S),(184,ZdF.S)])) Tryz.f183 (.seq .u (.seq (.seq .u (.blk (.seq .u (.cond .u (.seq .u (.cond .u (.seq .u (.cond (.seq .u (.seq (.seq .u (.blk (.loop ⟨[.int .i64,.list [.int .u8],.int .i64,.list [.int .u8]],[(0,.ptr 0 0),(3,.full 1),(4,.sc (.int .i64))],[.box [.sc (.list [.int .u8]),.sc (.int .i64)],.arr [.int .u8]]⟩ (fun ((n,o,o1,out):Int×List Int×Int×List Int)=>(n-0).toNat+1) 1 ⟨[.list [.int .u8],.int .i64,.list [.int .u8]],[(3,.full 1)],[.box [.sc (.list [.int .u8]),.sc (.int .i64)],.arr [.int .u8]]⟩ .u))) .u)) .u)))))))) (.seq .u (.seq (.seq .u (.blk (.loop ⟨[.str,.int .i64,.list [.int .u8],.int .i64],[(0,.ptr 0 0),(5,.sc .str),(6,.sc (.int .i64))],[.box [.sc (.list [.int .u8]),.sc (.int .i64)]]⟩ (fun ((out2,n1,o4,o5):Str×Int×List Int×Int)=>(n1-0).toNat+1) 3 ⟨[.str,.list [.int .u8],.int .i64],[(5,.sc .str)],[.box [.sc (.list [.int .u8]),.sc (.int .i64)]]⟩ .u))) .u)))) Zb0.S d=Zb0.S.F d:=fun _=>by kernel_rfl
theorem Zb0.sound:Zah Tryz.prog C0 183 Zb0.S:=sE Za5 Zb0.ev (Zai ⟨Zj7.sound,pick.sound,ZdF.sound,trivial⟩) Tryz.func183
def ZcA.S:ZaI:=⟨1,[.ptr 0 0],[.box [.sc (.list [.int .u8]),.sc (.int .i64)]],[.list [.int .u8],.int .i64],⟨[.str,.list [.int .u8],.int .i64],.sc .str,[.box [.sc (.list [.int .u8]),.sc (.int .i64)]]⟩,
 fun ((b,p):List Int×Int)=>ZcA b p⟩
theorem ZcA.ev:∀d,Za2 C0 (hnd (tab [(109,pick.S),(183,Zb0.S),(184,ZdF.S)])) Tryz.f143 .u ZcA.S d=ZcA.S.F d:=fun _=>by kernel_rfl
theorem ZcA.sound:Zah Tryz.prog C0 143 ZcA.S:=sE Za5 ZcA.ev (Zai ⟨pick.sound,Zb0.sound,ZdF.sound,trivial⟩) Tryz.func143
def ZbV.S:ZaI:=⟨1,[.ptr 0 0],[.box [.sc (.list [.int .u8]),.sc (.int .i64)]],[.list [.int .u8],.int .i64],⟨[.str,.list [.int .u8],.int .i64],.sc .str,[.box [.sc (.list [.int .u8]),.sc (.int .i64)]]⟩,
 fun ((b,p):List Int×Int)=>ZbV b p⟩
theorem ZbV.ev:∀d,Za2 C0 (hnd (tab [(102,Zj7.S)])) Tryz.f88 .u ZbV.S d=ZbV.S.F d:=fun _=>by kernel_rfl
theorem ZbV.sound:Zah Tryz.prog C0 88 ZbV.S:=sE Za5 ZbV.ev (Zai ⟨Zj7.sound,trivial⟩) Tryz.func88
def Zbw.S:ZaI:=⟨1,[.ptr 0 0],[.box [.sc (.list [.int .u8]),.sc (.int .i64)]],[.list [.int .u8],.int .i64],⟨[.str,.list [.int .u8],.int .i64],.sc .str,[.box [.sc (.list [.int .u8]),.sc (.int .i64)]]⟩,
 fun ((b,p):List Int×Int)=>Zbw b p⟩
theorem Zbw.ev:∀d,Za2 C0 (hnd (tab [(88,ZbV.S),(102,Zj7.S),(109,pick.S)])) Tryz.f89 .u Zbw.S d=Zbw.S.F d:=fun _=>by kernel_rfl
theorem Zbw.sound:Zah Tryz.prog C0 89 Zbw.S:=sE Za5 Zbw.ev (Zai ⟨ZbV.sound,Zj7.sound,pick.sound,trivial⟩) Tryz.func89
end Ev
end
section
open Go Go.Proofs
set_option maxRecDepth 100000
namespace Ev
set_option maxHeartbeats 1000000
def ZcW.S:ZaI:=⟨0,[.sc (.list [.str,.int .i64,.int .i64,.int .i64,.int .i64,.int .i64,.int .i64,.str]),.sc (.list [.str,.int .i64,.int .i64,.int .i64,.int .i64,.int .i64,.int .i64,.str])],[],[.list [.str,.int .i64,.int .i64,.int .i64,.int .i64,.int .i64,.int .i64,.str],.list [.str,.int .i64,.int .i64,.int .i64,.int .i64,.int .i64,.int .i64,.str]],⟨[.bool],.sc .bool,[]⟩,
 fun ((xs,ys):(List (Str×Int×Int×Int×Int×Int×Int×Str))×List (Str×Int×Int×Int×Int×Int×Int×Str))=>ZcW xs ys⟩
theorem ZcW.ev:∀d,Za2 C0 (hnd (tab [])) Tryz.f28 (.seq .u (.seq .u (.seq (.seq .u (.blk (.loopS ⟨[.list [.str,.int .i64,.int .i64,.int .i64,.int .i64,.int .i64,.int .i64,.str],.list [.str,.int .i64,.int .i64,.int .i64,.int .i64,.int .i64,.int .i64,.str],.int .i64],[(0,.sc (.list [.str,.int .i64,.int .i64,.int .i64,.int .i64,.int .i64,.int .i64,.str])),(1,.sc (.list [.str,.int .i64,.int .i64,.int .i64,.int .i64,.int .i64,.int .i64,.str])),(5,.sc (.int .i64))],[]⟩ (fun ((a,b,i):(List (Str×Int×Int×Int×Int×Int×Int×Str))×(List (Str×Int×Int×Int×Int×Int×Int×Str))×Int)=>((a.length:Int)-i).toNat+1) 0 ⟨[],[],[]⟩ .u))) .u))) ZcW.S d=ZcW.S.F d:=fun _=>by kernel_rfl
theorem ZcW.sound:Zah Tryz.prog C0 28 ZcW.S:=sE Za5 ZcW.ev (Zai trivial) Tryz.func28
def ZgG.S:ZaI:=⟨1,[.ptr 0 0,.sc (.list [.int .i64])],[.box [.sc (.list [.int .u8]),.sc (.int .i64)]],[.list [.int .i64],.list [.int .u8],.int .i64],⟨[.int .i64,.list [.int .u8],.int .i64],.sc (.int .i64),[.box [.sc (.list [.int .u8]),.sc (.int .i64)]]⟩,
 fun ((xs,b,p):List Int×List Int×Int)=>ZgG xs b p⟩
theorem ZgG.ev:∀d,Za2 C0 (hnd (tab [(109,pick.S)])) Tryz.f108 .u ZgG.S d=ZgG.S.F d:=fun _=>by kernel_rfl
theorem ZgG.sound:Zah Tryz.prog C0 108 ZgG.S:=sE Za5 ZgG.ev (Zai ⟨pick.sound,trivial⟩) Tryz.func108
def Zcv.S:ZaI:=⟨1,[.ptr 0 0,.sc .str],[.box [.sc (.list [.int .u8]),.sc (.int .i64)]],[.str,.list [.int .u8],.int .i64],⟨[.str,.list [.int .u8],.int .i64],.sc .str,[.box [.sc (.list [.int .u8]),.sc (.int .i64)]]⟩,
 fun ((s,b,p):Str×List Int×Int)=>Zcv s b p⟩
theorem Zcv.ev:∀d,Za2 C0 (hnd (tab [(102,Zj7.S),(109,pick.S)])) Tryz.f70 (.seq .u (.seq .u (.seq .u (.seq (.seq .u (.blk (.seq .u (.cond (.seq (.cm [(0,[0]),(1,[0]),(2,[0])]) .u) .u)))) .u)))) Zcv.S d=Zcv.S.F d:=fun _=>by kernel_rfl
theorem Zcv.sound:Zah Tryz.prog C0 70 Zcv.S:=sE Za5 Zcv.ev (Zai ⟨Zj7.sound,pick.sound,trivial⟩) Tryz.func70
def Zcl.S:ZaI:=⟨1,[.ptr 0 0],[.box [.sc (.list [.int .u8]),.sc (.int .i64)]],[.list [.int .u8],.int .i64],⟨[.int .i64,.int .i64,.int .i64,.int .i64,.int .i64,.int .i64,.list [.int .u8],.int .i64],.agg [.sc (.int .i64),.sc (.int .i64),.sc (.int .i64),.sc (.int .i64),.sc (.int .i64),.sc (.int .i64)],[.box [.sc (.list [.int .u8]),.sc (.int .i64)]]⟩,
 fun ((b,p):List Int×Int)=>Zcl b p⟩
theorem Zcl.ev:∀d,Za2 C0 (hnd (tab [(108,ZgG.S),(109,pick.S)])) Tryz.f145 .u Zcl.S d=Zcl.S.F d:=fun _=>by kernel_rfl
theorem Zcl.sound:Zah Tryz.prog C0 145 Zcl.S:=sE Za5 Zcl.ev (Zai ⟨ZgG.sound,pick.sound,trivial⟩) Tryz.func145
def Zb8.S:ZaI:=⟨1,[.ptr 0 0],[.box [.sc (.list [.int .u8]),.sc (.int .i64)]],[.list [.int .u8],.int .i64],⟨[.int .i64,.int .i64,.int .i64,.int .i64,.int .i64,.int .i64,.list [.int .u8],.int .i64],.agg [.sc (.int .i64),.sc (.int .i64),.sc (.int .i64),.sc (.int .i64),.sc (.int .i64),.sc (.int .i64)],[.box [.sc (.list [.int .u8]),.sc (.int .i64)]]⟩,
 fun ((b,p):List Int×Int)=>Zb8 b p⟩
theorem Zb8.ev:∀d,Za2 C0 (hnd (tab [(108,ZgG.S),(109,pick.S),(145,Zcl.S)])) Tryz.f103 .u Zb8.S d=Zb8.S.F d:=fun _=>by kernel_rfl
theorem Zb8.sound:Zah Tryz.prog C0 103 Zb8.S:=sE Za5 Zb8.ev (Zai ⟨ZgG.sound,pick.sound,Zcl.sound,trivial⟩) Tryz.func103
def Zcz.S:ZaI:=⟨1,[.ptr 0 0],[.box [.sc (.list [.int .u8]),.sc (.int .i64)]],[.list [.int .u8],.int .i64],⟨[.str,.int .i64,.int .i64,.int .i64,.int .i64,.int .i64,.int .i64,.str,.list [.int .u8],.int .i64],.agg [.sc .str,.sc (.int .i64),.sc (.int .i64),.sc (.int .i64),.sc (.int .i64),.sc (.int .i64),.sc (.int .i64),.sc .str],[.box [.sc (.list [.int .u8]),.sc (.int .i64)]]⟩,
 fun ((b,p):List Int×Int)=>Zcz b p⟩
theorem Zcz.ev:∀d,Za2 C0 (hnd (tab [(88,ZbV.S),(145,Zcl.S),(183,Zb0.S)])) Tryz.f142 .u Zcz.S d=Zcz.S.F d:=fun _=>by kernel_rfl
theorem Zcz.sound:Zah Tryz.prog C0 142 Zcz.S:=sE Za5 Zcz.ev (Zai ⟨ZbV.sound,Zcl.sound,Zb0.sound,trivial⟩) Tryz.func142
def Zb9.S:ZaI:=⟨1,[.ptr 0 0],[.box [.sc (.list [.int .u8]),.sc (.int .i64)]],[.list [.int .u8],.int .i64],⟨[.str,.int .i64,.int .i64,.int .i64,.int .i64,.int .i64,.int .i64,.str,.list [.int .u8],.int .i64],.agg [.sc .str,.sc (.int .i64),.sc (.int .i64),.sc (.int .i64),.sc (.int .i64),.sc (.int .i64),.sc (.int .i64),.sc .str],[.box [.sc (.list [.int .u8]),.sc (.int .i64)]]⟩,
 fun ((b,p):List Int×Int)=>Zb9 b p⟩
theorem Zb9.ev:∀d,Za2 C0 (hnd (tab [(89,Zbw.S),(103,Zb8.S),(109,pick.S),(142,Zcz.S),(143,ZcA.S)])) Tryz.f97 .u Zb9.S d=Zb9.S.F d:=fun _=>by kernel_rfl
theorem Zb9.sound:Zah Tryz.prog C0 97 Zb9.S:=sE Za5 Zb9.ev (Zai ⟨Zbw.sound,Zb8.sound,pick.sound,Zcz.sound,ZcA.sound,trivial⟩) Tryz.func97
def Zbk.S:ZaI:=⟨1,[.ptr 0 0],[.box [.sc (.list [.int .u8]),.sc (.int .i64)]],[.list [.int .u8],.int .i64],⟨[.list [.int .u8],.int .i64,.list [.str,.int .i64,.int .i64,.int .i64,.int .i64,.int .i64,.int .i64,.str]],.full 1,[.box [.sc (.list [.int .u8]),.sc (.int .i64)],.arr [.str,.int .i64,.int .i64,.int .i64,.int .i64,.int .i64,.int .i64,.str]]⟩,
 fun ((b,p):List Int×Int)=>Zbk b p⟩
theorem Zbk.ev:∀d,Za2 C0 (hnd (tab [(74,Zgg.S),(109,pick.S),(142,Zcz.S),(145,Zcl.S),(151,ZgK.S)])) Tryz.f125 (.seq .u (.seq .u (.seq (.seq .u (.blk (.loop ⟨[.int .i64,.list [.int .u8],.int .i64,.list [.str,.int .i64,.int .i64,.int .i64,.int .i64,.int .i64,.int .i64,.str]],[(0,.ptr 0 0),(3,.full 1),(4,.sc (.int .i64))],[.box [.sc (.list [.int .u8]),.sc (.int .i64)],.arr [.str,.int .i64,.int .i64,.int .i64,.int .i64,.int .i64,.int .i64,.str]]⟩ (fun ((n,o,o1,out):Int×List Int×Int×List (Str×Int×Int×Int×Int×Int×Int×Str))=>(n-0).toNat+1) 0 ⟨[.list [.int .u8],.int .i64,.list [.str,.int .i64,.int .i64,.int .i64,.int .i64,.int .i64,.int .i64,.str]],[(0,.ptr 0 0),(3,.full 1)],[.box [.sc (.list [.int .u8]),.sc (.int .i64)],.arr [.str,.int .i64,.int .i64,.int .i64,.int .i64,.int .i64,.int .i64,.str]]⟩ .u))) (.seq (.seq .u (.cond (.seq .u (.blk (.loop ⟨[.int .i64,.list [.int .u8],.int .i64,.list [.str,.int .i64,.int .i64,.int .i64,.int .i64,.int .i64,.int .i64,.str]],[(0,.ptr 0 0),(3,.full 1),(5,.sc (.int .i64))],[.box [.sc (.list [.int .u8]),.sc (.int .i64)],.arr [.str,.int .i64,.int .i64,.int .i64,.int .i64,.int .i64,.int .i64,.str]]⟩ (fun ((n1,o4,o5,out2):Int×List Int×Int×List (Str×Int×Int×Int×Int×Int×Int×Str))=>(6-n1).toNat+1) 2 ⟨[.list [.int .u8],.int .i64,.list [.str,.int .i64,.int .i64,.int .i64,.int .i64,.int .i64,.int .i64,.str]],[(3,.full 1)],[.box [.sc (.list [.int .u8]),.sc (.int .i64)],.arr [.str,.int .i64,.int .i64,.int .i64,.int .i64,.int .i64,.int .i64,.str]]⟩ .u))) .u)) .u)))) Zbk.S d=Zbk.S.F d:=fun _=>by kernel_rfl
theorem Zbk.sound:Zah Tryz.prog C0 125 Zbk.S:=sE Za5 Zbk.ev (Zai ⟨Zgg.sound,pick.sound,Zcz.sound,Zcl.sound,ZgK.sound,trivial⟩) Tryz.func125
def Zdq.S:ZaI:=⟨1,[.ptr 0 0],[.box [.sc (.list [.int .u8]),.sc (.int .i64)]],[.list [.int .u8],.int .i64],⟨[.str,.list [.int .u8],.int .i64],.sc .str,[.box [.sc (.list [.int .u8]),.sc (.int .i64)]]⟩,
 fun ((b,p):List Int×Int)=>Zdq b p⟩
theorem Zdq.ev:∀d,Za2 C0 (hnd (tab [(75,ZcL.S),(125,Zbk.S)])) Tryz.f69 .u Zdq.S d=Zdq.S.F d:=fun _=>by kernel_rfl
theorem Zdq.sound:Zah Tryz.prog C0 69 Zdq.S:=sE Za5 Zdq.ev (Zai ⟨ZcL.sound,Zbk.sound,trivial⟩) Tryz.func69
def Zce.S:ZaI:=⟨0,[.sc (.list [.int .u8])],[],[.list [.int .u8]],⟨[.str,.str],.tup [.sc .str,.sc .str],[]⟩,
 fun (code_:List Int)=>Zce code_⟩
theorem Zce.ev:∀d,Za2 C0 (hnd (tab [(68,Zdu.S),(69,Zdq.S),(70,Zcv.S),(88,ZbV.S)])) Tryz.f82 .u Zce.S d=Zce.S.F d:=fun _=>by kernel_rfl
theorem Zce.sound:Zah Tryz.prog C0 82 Zce.S:=sE Za5 Zce.ev (Zai ⟨Zdu.sound,Zdq.sound,Zcv.sound,ZbV.sound,trivial⟩) Tryz.func82
def Zbe.S:ZaI:=⟨0,[.sc (.list [.int .u8])],[],[.list [.int .u8]],⟨[.str,.str,.int .i64,.int .i64,.int .i64,.int .i64,.int .i64,.int .i64,.str],.tup [.sc .str,.agg [.sc .str,.sc (.int .i64),.sc (.int .i64),.sc (.int .i64),.sc (.int .i64),.sc (.int .i64),.sc (.int .i64),.sc .str]],[]⟩,
 fun (code_:List Int)=>Zbe code_⟩
theorem Zbe.ev:∀d,Za2 C0 (hnd (tab [(68,Zdu.S),(69,Zdq.S),(70,Zcv.S),(97,Zb9.S)])) Tryz.f37 .u Zbe.S d=Zbe.S.F d:=fun _=>by kernel_rfl
theorem Zbe.sound:Zah Tryz.prog C0 37 Zbe.S:=sE Za5 Zbe.ev (Zai ⟨Zdu.sound,Zdq.sound,Zcv.sound,Zb9.sound,trivial⟩) Tryz.func37
def Zcf.S:ZaI:=⟨0,[.sc (.list [.int .u8])],[],[.list [.int .u8]],⟨[.str,.str],.tup [.sc .str,.sc .str],[]⟩,
 fun (code_:List Int)=>Zcf code_⟩
theorem Zcf.ev:∀d,Za2 C0 (hnd (tab [(82,Zce.S)])) Tryz.f29 .u Zcf.S d=Zcf.S.F d:=fun _=>by kernel_rfl
theorem Zcf.sound:Zah Tryz.prog C0 29 Zcf.S:=sE Za5 Zcf.ev (Zai ⟨Zce.sound,trivial⟩) Tryz.func29
def Zcc.S:ZaI:=⟨0,[.sc (.list [.int .u8])],[],[.list [.int .u8]],⟨[.str,.str,.int .i64,.int .i64,.int .i64,.int .i64,.int .i64,.int .i64,.str],.tup [.sc .str,.agg [.sc .str,.sc (.int .i64),.sc (.int .i64),.sc (.int .i64),.sc (.int .i64),.sc (.int .i64),.sc (.int .i64),.sc .str]],[]⟩,
 fun (code_:List Int)=>Zcc code_⟩
theorem Zcc.ev:∀d,Za2 C0 (hnd (tab [(37,Zbe.S)])) Tryz.f39 .u Zcc.S d=Zcc.S.F d:=fun _=>by kernel_rfl
theorem Zcc.sound:Zah Tryz.prog C0 39 Zcc.S:=sE Za5 Zcc.ev (Zai ⟨Zbe.sound,trivial⟩) Tryz.func39
def Zcd.S:ZaI:=⟨0,[.sc (.list [.int .u8])],[],[.list [.int .u8]],⟨[.str,.str,.str],.tup [.sc .str,.sc .str,.sc .str],[]⟩,
 fun (code_:List Int)=>Zcd code_⟩
theorem Zcd.ev:∀d,Za2 C0 (hnd (tab [(68,Zdu.S),(69,Zdq.S),(70,Zcv.S),(88,ZbV.S),(89,Zbw.S)])) Tryz.f33 .u Zcd.S d=Zcd.S.F d:=fun _=>by kernel_rfl
theorem Zcd.sound:Zah Tryz.prog C0 33 Zcd.S:=sE Za5 Zcd.ev (Zai ⟨Zdu.sound,Zdq.sound,Zcv.sound,ZbV.sound,Zbw.sound,trivial⟩) Tryz.func33
def Zbt.S:ZaI:=⟨0,[.sc (.list [.int .u8])],[],[.list [.int .u8]],⟨[.str,.str],.tup [.sc .str,.sc .str],[]⟩,
 fun (code_:List Int)=>Zbt code_⟩
theorem Zbt.ev:∀d,Za2 C0 (hnd (tab [(68,Zdu.S),(69,Zdq.S),(70,Zcv.S)])) Tryz.f22 .u Zbt.S d=Zbt.S.F d:=fun _=>by kernel_rfl
theorem Zbt.sound:Zah Tryz.prog C0 22 Zbt.S:=sE Za5 Zbt.ev (Zai ⟨Zdu.sound,Zdq.sound,Zcv.sound,trivial⟩) Tryz.func22
def FnZipJoinOne.S:ZaI:=⟨0,[.sc (.list [.int .u8])],[],[.list [.int .u8]],⟨[.bool],.sc .bool,[]⟩,
 fun (code_:List Int)=>FnZipJoinOne code_⟩
theorem FnZipJoinOne.ev:∀d,Za2 C0 (hnd (tab [(22,Zbt.S),(23,Zdi.S),(24,ZaE.S),(25,ZaA.S),(26,Zdk.S)])) Tryz.f4 (.seq .u (.seq .u (.seq .u (.seq .u (.seq .u (.seq .u (.seq (.seq (.reg [.bool] [(60,.sc .bool)]) (.cond (.seq (.reg [.bool] [(2,.sc .bool)]) .u) .u)) (.seq .u (.seq (.seq .u (.blk (.loopS ⟨[.str,.str,.int .i64,.str,.int .i64,.list [.str,.int .i64,.int .i64,.int .i64,.int .i64,.int .i64,.int .i64,.str]],[(3,.sc .str),(5,.sc .str),(6,.sc (.int .i64)),(9,.full 0),(11,.sc .str),(12,.sc (.int .i64))],[.arr [.str,.int .i64,.int .i64,.int .i64,.int .i64,.int .i64,.int .i64,.str]]⟩ (fun ((a,x,k,y,i,list):Str×Str×Int×Str×Int×List (Str×Int×Int×Int×Int×Int×Int×Str))=>((list.length:Int)-i).toNat+1) 0 ⟨[.str,.int .i64,.str],[(5,.sc .str),(6,.sc (.int .i64)),(11,.sc .str)],[]⟩ (.seq .u (.seq (.blk (.seq .u (.seq (.seq .u (.cond (.seq (.reg [.bool] [(2,.sc .bool)]) .u) .u)) .u))) .u))))) (.seq (.reg [.bool] [(2,.sc .bool)]) .u)))))))))) FnZipJoinOne.S d=FnZipJoinOne.S.F d:=fun _=>by kernel_rfl
def FnZipJoin.S:ZaI:=⟨0,[.sc (.list [.int .u8])],[],[.list [.int .u8]],⟨[.bool],.sc .bool,[]⟩,
 fun (code_:List Int)=>FnZipJoin code_⟩
theorem FnZipJoin.ev:∀d,Za2 C0 (hnd (tab [(22,Zbt.S),(23,Zdi.S),(24,ZaE.S),(25,ZaA.S),(27,Za6.S),(28,ZcW.S)])) Tryz.f5 (.seq .u (.seq .u (.seq .u (.seq .u (.seq .u (.seq (.seq (.reg [.bool] [(51,.sc .bool)]) (.cond (.seq (.reg [.bool] [(2,.sc .bool)]) .u) .u)) .u)))))) FnZipJoin.S d=FnZipJoin.S.F d:=fun _=>by kernel_rfl
def FnZipDrop.S:ZaI:=⟨0,[.sc (.list [.int .u8])],[],[.list [.int .u8]],⟨[.bool],.sc .bool,[]⟩,
 fun (code_:List Int)=>FnZipDrop code_⟩
theorem FnZipDrop.ev:∀d,Za2 C0 (hnd (tab [(25,ZaA.S),(29,Zcf.S),(30,Zdj.S),(31,Zb5.S),(32,Zbm.S)])) Tryz.f6 (.seq .u (.seq .u (.seq .u (.seq .u (.seq .u (.seq (.seq (.reg [.bool] [(50,.sc .bool)]) (.cond (.seq (.reg [.bool] [(2,.sc .bool)]) .u) .u)) (.seq .u (.seq .u (.seq .u (.seq (.seq .u (.blk (.loopS ⟨[.str,.str,.bool,.int .i64,.int .i64,.list [.str,.int .i64,.int .i64,.int .i64,.int .i64,.int .i64,.int .i64,.str],.list [.str,.int .i64,.int .i64,.int .i64,.int .i64,.int .i64,.int .i64,.str]],[(4,.sc .str),(5,.sc .str),(9,.full 0),(11,.full 1),(12,.sc .bool),(13,.sc (.int .i64)),(14,.sc (.int .i64))],[.arr [.str,.int .i64,.int .i64,.int .i64,.int .i64,.int .i64,.int .i64,.str],.arr [.str,.int .i64,.int .i64,.int .i64,.int .i64,.int .i64,.int .i64,.str]]⟩ (fun ((name,x,ok,n,i,was,list):Str×Str×Bool×Int×Int×(List (Str×Int×Int×Int×Int×Int×Int×Str))×List (Str×Int×Int×Int×Int×Int×Int×Str))=>((was.length:Int)-i).toNat+1) 0 ⟨[.str,.str,.bool,.int .i64,.list [.str,.int .i64,.int .i64,.int .i64,.int .i64,.int .i64,.int .i64,.str]],[(4,.sc .str),(5,.sc .str),(11,.full 0),(12,.sc .bool),(13,.sc (.int .i64))],[.arr [.str,.int .i64,.int .i64,.int .i64,.int .i64,.int .i64,.int .i64,.str]]⟩ (.seq .u (.seq (.blk (.seq .u (.cond (.seq (.seq (.reg [.bool] [(105,.sc .bool)]) .u) .u) .u))) .u))))) (.seq .u (.seq .u (.seq (.reg [.bool] [(2,.sc .bool)]) .u))))))))))))) FnZipDrop.S d=FnZipDrop.S.F d:=fun _=>by kernel_rfl
def FnZipMove.S:ZaI:=⟨0,[.sc (.list [.int .u8])],[],[.list [.int .u8]],⟨[.bool],.sc .bool,[]⟩,
 fun (code_:List Int)=>FnZipMove code_⟩
theorem FnZipMove.ev:∀d,Za2 C0 (hnd (tab [(25,ZaA.S),(27,Za6.S),(32,Zbm.S),(33,Zcd.S),(34,Zea.S),(35,Zb4.S),(36,ZdM.S)])) Tryz.f7 (.seq .u (.seq .u (.seq .u (.seq .u (.seq .u (.seq (.seq (.reg [.bool] [(54,.sc .bool)]) (.cond (.seq (.reg [.bool] [(2,.sc .bool)]) .u) .u)) .u)))))) FnZipMove.S d=FnZipMove.S.F d:=fun _=>by kernel_rfl
end Ev
end
section
open Go Go.Proofs
set_option maxRecDepth 100000
namespace Ev
set_option maxHeartbeats 1000000
def FnZipSwap.S:ZaI:=⟨0,[.sc (.list [.int .u8])],[],[.list [.int .u8]],⟨[.bool],.sc .bool,[]⟩,
 fun (code_:List Int)=>FnZipSwap code_⟩
theorem FnZipSwap.ev:∀d,Za2 C0 (hnd (tab [(25,ZaA.S),(27,Za6.S),(39,Zcc.S),(40,Zen.S),(41,Zb3.S)])) Tryz.f9 (.seq .u (.seq .u (.seq .u (.seq .u (.seq .u (.seq (.seq (.reg [.bool] [(47,.sc .bool)]) (.cond (.seq (.reg [.bool] [(2,.sc .bool)]) .u) .u)) (.seq .u (.seq .u (.seq (.seq (.reg [.bool] [(83,.sc .bool)]) .u) (.seq (.seq .u (.blk (.loopS ⟨[.str,.int .i64,.str,.int .i64,.int .i64,.int .i64,.int .i64,.int .i64,.int .i64,.str,.list [.str,.int .i64,.int .i64,.int .i64,.int .i64,.int .i64,.int .i64,.str],.list [.str,.int .i64,.int .i64,.int .i64,.int .i64,.int .i64,.int .i64,.str]],[(4,.ptr 0 0),(5,.sc .str),(9,.full 1),(11,.full 2),(13,.sc (.int .i64))],[.box [.sc .str,.sc (.int .i64),.sc (.int .i64),.sc (.int .i64),.sc (.int .i64),.sc (.int .i64),.sc (.int .i64),.sc .str],.arr [.str,.int .i64,.int .i64,.int .i64,.int .i64,.int .i64,.int .i64,.str],.arr [.str,.int .i64,.int .i64,.int .i64,.int .i64,.int .i64,.int .i64,.str]]⟩ (fun ((x,i,o,o1,o2,o3,o4,o5,o6,o7,was,list):Str×Int×Str×Int×Int×Int×Int×Int×Int×Str×(List (Str×Int×Int×Int×Int×Int×Int×Str))×List (Str×Int×Int×Int×Int×Int×Int×Str))=>((was.length:Int)-i).toNat+1) 0 ⟨[],[],[]⟩ (.seq .u (.seq (.blk (.seq .u (.cond (.seq .u (.seq (.reg [.bool] [(122,.sc .bool)]) .u)) .u))) .u))))) .u)))))))))) FnZipSwap.S d=FnZipSwap.S.F d:=fun _=>by kernel_rfl
def FnZipAdd.S:ZaI:=⟨0,[.sc (.list [.int .u8])],[],[.list [.int .u8]],⟨[.bool],.sc .bool,[]⟩,
 fun (code_:List Int)=>FnZipAdd code_⟩
theorem FnZipAdd.ev:∀d,Za2 C0 (hnd (tab [(25,ZaA.S),(26,Zdk.S),(27,Za6.S),(28,ZcW.S),(30,Zdj.S),(37,Zbe.S),(38,ZbJ.S)])) Tryz.f10 (.seq .u (.seq .u (.seq .u (.seq .u (.seq .u (.seq (.seq (.reg [.bool] [(49,.sc .bool)]) (.cond (.seq (.reg [.bool] [(2,.sc .bool)]) .u) .u)) (.seq .u (.seq .u (.seq .u (.seq .u (.seq .u (.seq (.reg [.bool] [(2,.sc .bool)]) .u)))))))))))) FnZipAdd.S d=FnZipAdd.S.F d:=fun _=>by kernel_rfl
def FnZipTwice.S:ZaI:=⟨0,[.sc (.list [.int .u8]),.sc (.list [.int .u8])],[],[.list [.int .u8],.list [.int .u8]],⟨[.bool],.sc .bool,[]⟩,
 fun ((code_,more):List Int×List Int)=>FnZipTwice code_ more⟩
theorem FnZipTwice.ev:∀d,Za2 C0 (hnd (tab [(26,Zdk.S),(32,Zbm.S),(37,Zbe.S),(38,ZbJ.S)])) Tryz.f8 (.seq .u (.seq (.seq (.reg [.bool] [(30,.sc .bool)]) .u) (.seq .u (.seq .u (.seq .u (.seq .u (.seq (.seq (.reg [.bool] [(64,.sc .bool)]) (.cond (.seq (.reg [.bool] [(4,.sc .bool)]) .u) .u)) (.seq .u (.seq .u (.seq .u (.seq (.seq .u (.cond (.seq (.reg [.bool] [(4,.sc .bool)]) .u) .u)) (.seq .u (.seq .u (.seq (.reg [.bool] [(4,.sc .bool)]) .u)))))))))))))) FnZipTwice.S d=FnZipTwice.S.F d:=fun _=>by kernel_rfl
end Ev
end

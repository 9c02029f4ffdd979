/- That the evaluator says of each function what it computes, and so that the program does. Conditions: none. -/
import Derived.Test.YtiphcamiidggcaaGreatDoorProg
import Derived.KernelRfl
import Derived.Test.YtiphcamiidggcaaGreatDoorBGP0
set_option linter.unusedVariables false
set_option linter.unusedSimpArgs false
section
open Go Go.Proofs
set_option maxRecDepth 100000
namespace Ev
def Zw0:List (Nat×TI):=[
 (2,⟨.int .i64,1,8,[.int .i64 0],some [.int .i64]⟩),
 (3,⟨.int .i64,1,8,[.int .i64 0],some [.int .i64]⟩),
 (4,⟨.bool,1,1,[.bool false],some [.bool]⟩),
 (5,⟨.int .u8,1,1,[.int .u8 0],some [.int .u8]⟩),
 (6,⟨.int .u8,1,1,[.int .u8 0],some [.int .u8]⟩),
 (7,⟨.struct [(0,1,false),(1,1,false),(2,1,false),(3,1,false)],4,24,[.int .i64 0,.int .i64 0,.bool false,.int .u8 0],some [.int .i64,.int .i64,.bool,.int .u8]⟩),
 (8,⟨.struct [(0,1,false),(1,1,false),(2,1,false),(3,1,false)],4,24,[.int .i64 0,.int .i64 0,.bool false,.int .u8 0],some [.int .i64,.int .i64,.bool,.int .u8]⟩),
 (9,⟨.str,1,16,[.str []],some [.str]⟩),
 (10,⟨.str,1,16,[.str []],some [.str]⟩),
 (11,⟨.str,1,16,[.str []],some [.str]⟩),
 (12,⟨.int .u64,1,8,[.int .u64 0],some [.int .u64]⟩),
 (13,⟨.struct [(0,1,false),(1,1,false)],2,24,[.str [],.int .u64 0],some [.str,.int .u64]⟩),
 (14,⟨.struct [(0,1,false),(1,1,false)],2,24,[.str [],.int .u64 0],some [.str,.int .u64]⟩),
 (15,⟨.ptr 267,1,8,[.nilp],none⟩),
 (16,⟨.ptr 270,1,8,[.nilp],none⟩),
 (17,⟨.ptr 277,1,8,[.nilp],none⟩),
 (18,⟨.struct [(0,1,false)],1,8,[.nilp],none⟩),
 (19,⟨.struct [(0,1,false)],1,8,[.nilp],none⟩),
 (21,⟨.int .i32,1,4,[.int .i32 0],some [.int .i32]⟩),
 (22,⟨.slice 77,1,24,[.nilsl],none⟩),
 (24,⟨.slice 61,1,24,[.nilsl],none⟩),
 (31,⟨.slice 5,1,24,[.nilsl],some [.ints .u8]⟩),
 (36,⟨.slice 43,1,24,[.nilsl],none⟩),
 (40,⟨.struct [(0,1,false),(1,1,false),(2,1,false),(3,1,false),(4,1,false),(5,1,false)],6,48,[.int .i64 0,.int .i64 0,.int .i64 0,.int .i64 0,.int .i64 0,.int .i64 0],some [.int .i64,.int .i64,.int .i64,.int .i64,.int .i64,.int .i64]⟩),
 (41,⟨.struct [(0,1,false),(1,1,false),(2,1,false),(3,1,false),(4,1,false),(5,1,false)],6,48,[.int .i64 0,.int .i64 0,.int .i64 0,.int .i64 0,.int .i64 0,.int .i64 0],some [.int .i64,.int .i64,.int .i64,.int .i64,.int .i64,.int .i64]⟩),
 (42,⟨.struct [(0,1,false),(1,6,true),(7,1,false)],8,80,[.str [],.int .i64 0,.int .i64 0,.int .i64 0,.int .i64 0,.int .i64 0,.int .i64 0,.str []],some [.str,.int .i64,.int .i64,.int .i64,.int .i64,.int .i64,.int .i64,.str]⟩),
 (43,⟨.struct [(0,1,false),(1,6,true),(7,1,false)],8,80,[.str [],.int .i64 0,.int .i64 0,.int .i64 0,.int .i64 0,.int .i64 0,.int .i64 0,.str []],some [.str,.int .i64,.int .i64,.int .i64,.int .i64,.int .i64,.int .i64,.str]⟩),
 (52,⟨.slice 9,1,24,[.nilsl],none⟩),
 (60,⟨.struct [(0,1,false),(1,1,false)],2,32,[.str [],.str []],some [.str,.str]⟩),
 (61,⟨.struct [(0,1,false),(1,1,false)],2,32,[.str [],.str []],some [.str,.str]⟩),
 (67,⟨.struct [(0,1,false),(1,1,false)],2,32,[.str [],.str []],some [.str,.str]⟩),
 (68,⟨.struct [(0,1,false),(1,1,false)],2,32,[.str [],.str []],some [.str,.str]⟩),
 (77,⟨.struct [(0,1,false),(1,1,false)],2,32,[.str [],.str []],some [.str,.str]⟩),
 (87,⟨.ptr 130,1,8,[.nilp],none⟩),
 (117,⟨.slice 3,1,24,[.nilsl],some [.ints .i64]⟩),
 (128,⟨.int .u64,1,8,[.int .u64 0],some [.int .u64]⟩),
 (129,⟨.struct [(0,1,false),(1,1,false)],2,32,[.nilsl,.int .i64 0],some [.ints .u8,.int .i64]⟩),
 (130,⟨.struct [(0,1,false),(1,1,false)],2,32,[.nilsl,.int .i64 0],some [.ints .u8,.int .i64]⟩),
 (139,⟨.ptr 141,1,8,[.nilp],none⟩),
 (140,⟨.struct [(0,1,false),(1,1,false)],2,32,[.nilp,.nilsl],none⟩),
 (141,⟨.struct [(0,1,false),(1,1,false)],2,32,[.nilp,.nilsl],none⟩),
 (156,⟨.int .i64,1,8,[.int .i64 0],some [.int .i64]⟩),
 (163,⟨.int .u32,1,4,[.int .u32 0],some [.int .u32]⟩),
 (165,⟨.int .u64,1,8,[.int .u64 0],some [.int .u64]⟩),
 (169,⟨.ptr 171,1,8,[.nilp],none⟩),
 (170,⟨.struct [(0,1,false),(1,1,false),(2,1,false)],3,32,[.str [],.int .i64 0,.bool false],some [.str,.int .i64,.bool]⟩),
 (171,⟨.struct [(0,1,false),(1,1,false),(2,1,false)],3,32,[.str [],.int .i64 0,.bool false],some [.str,.int .i64,.bool]⟩),
 (177,⟨.ptr 5,1,8,[.nilp],none⟩),
 (182,⟨.int .u64,1,8,[.int .u64 0],some [.int .u64]⟩),
 (186,⟨.ptr 3,1,8,[.nilp],none⟩),
 (189,⟨.map 223 3,1,8,[.undef],none⟩),
 (190,⟨.map 223 3,1,8,[.undef],none⟩),
 (193,⟨.struct [(0,1,false),(1,1,false)],2,48,[.nilsl,.nilsl],some [.ints .i64,.ints .i64]⟩),
 (194,⟨.struct [(0,1,false),(1,1,false)],2,48,[.nilsl,.nilsl],some [.ints .i64,.ints .i64]⟩),
 (196,⟨.struct [(0,1,false),(1,1,false),(2,1,false)],3,24,[.int .i64 0,.int .i64 0,.int .i64 0],some [.int .i64,.int .i64,.int .i64]⟩),
 (197,⟨.struct [(0,1,false),(1,1,false),(2,1,false)],3,24,[.int .i64 0,.int .i64 0,.int .i64 0],some [.int .i64,.int .i64,.int .i64]⟩),
 (200,⟨.ptr 202,1,8,[.nilp],none⟩),
 (201,⟨.struct [(0,1,false),(1,1,false)],2,32,[.nilsl,.int .i64 0],some [.ints .u8,.int .i64]⟩),
 (202,⟨.struct [(0,1,false),(1,1,false)],2,32,[.nilsl,.int .i64 0],some [.ints .u8,.int .i64]⟩),
 (205,⟨.slice 197,1,24,[.nilsl],none⟩),
 (219,⟨.ptr 182,1,8,[.nilp],none⟩),
 (222,⟨.struct [(0,1,false),(1,1,false)],2,16,[.int .i64 0,.int .i64 0],some [.int .i64,.int .i64]⟩),
 (223,⟨.struct [(0,1,false),(1,1,false)],2,16,[.int .i64 0,.int .i64 0],some [.int .i64,.int .i64]⟩),
 (232,⟨.ptr 234,1,8,[.nilp],none⟩),
 (233,⟨.struct [(0,1,false),(1,1,false),(2,1,false)],3,32,[.str [],.int .i64 0,.bool false],some [.str,.int .i64,.bool]⟩),
 (234,⟨.struct [(0,1,false),(1,1,false),(2,1,false)],3,32,[.str [],.int .i64 0,.bool false],some [.str,.int .i64,.bool]⟩),
 (237,⟨.ptr 239,1,8,[.nilp],none⟩),
 (238,⟨.struct [(0,1,false),(1,1,false),(2,1,false)],3,40,[.nilsl,.int .i64 0,.int .i64 0],some [.ints .u8,.int .i64,.int .i64]⟩),
 (239,⟨.struct [(0,1,false),(1,1,false),(2,1,false)],3,40,[.nilsl,.int .i64 0,.int .i64 0],some [.ints .u8,.int .i64,.int .i64]⟩),
 (243,⟨.slice 245,1,24,[.nilsl],none⟩),
 (244,⟨.struct [(0,1,false),(1,1,false)],2,32,[.int .i64 0,.nilsl],some [.int .i64,.ints .i64]⟩),
 (245,⟨.struct [(0,1,false),(1,1,false)],2,32,[.int .i64 0,.nilsl],some [.int .i64,.ints .i64]⟩),
 (251,⟨.struct [(0,1,false),(1,1,false)],2,2,[.int .u8 0,.int .u8 0],some [.int .u8,.int .u8]⟩),
 (252,⟨.struct [(0,1,false),(1,1,false)],2,2,[.int .u8 0,.int .u8 0],some [.int .u8,.int .u8]⟩),
 (261,⟨.slice 263,1,24,[.nilsl],none⟩),
 (262,⟨.struct [(0,1,false),(1,1,false),(2,1,false)],3,40,[.int .i64 0,.int .i64 0,.nilsl],some [.int .i64,.int .i64,.ints .i64]⟩),
 (263,⟨.struct [(0,1,false),(1,1,false),(2,1,false)],3,40,[.int .i64 0,.int .i64 0,.nilsl],some [.int .i64,.int .i64,.ints .i64]⟩),
 (266,⟨.struct [(0,1,false),(1,1,false),(2,1,false),(3,1,false)],4,40,[.nilp,.nilp,.nilp,.str []],none⟩),
 (267,⟨.struct [(0,1,false),(1,1,false),(2,1,false),(3,1,false)],4,40,[.nilp,.nilp,.nilp,.str []],none⟩),
 (271,⟨.int .u8,1,1,[.int .u8 0],some [.int .u8]⟩),
 (272,⟨.int .u8,1,1,[.int .u8 0],some [.int .u8]⟩),
 (274,⟨.int .i32,1,4,[.int .i32 0],some [.int .i32]⟩),
 (275,⟨.int .i32,1,4,[.int .i32 0],some [.int .i32]⟩),
 (276,⟨.struct [(0,1,false),(1,1,false),(2,1,false),(3,1,false),(4,1,false),(5,1,false),(6,1,false),(7,1,false),(8,1,false),(9,1,false),(10,1,false)],11,48,[.int .u64 0,.int .u64 0,.int .u32 0,.int .u8 0,.int .u8 0,.int .u8 0,.int .u8 0,.undef,.nilp,.int .i32 0,.int .i32 0],none⟩),
 (277,⟨.struct [(0,1,false),(1,1,false),(2,1,false),(3,1,false),(4,1,false),(5,1,false),(6,1,false),(7,1,false),(8,1,false),(9,1,false),(10,1,false)],11,48,[.int .u64 0,.int .u64 0,.int .u32 0,.int .u8 0,.int .u8 0,.int .u8 0,.int .u8 0,.undef,.nilp,.int .i32 0,.int .i32 0],none⟩)]
theorem Zvv:tisC Tryz.prog Zw0=true:=by kernel_rfl
theorem nm:Tryz.prog.follows .mixedOrders=true:=by kernel_rfl
def eqTab:List (Nat×FT):=[(43,[.str,.int .i64,.int .i64,.int .i64,.int .i64,.int .i64,.int .i64,.str]),(61,[.str,.str]),(223,[.int .i64,.int .i64])]
theorem Zwq:eqsC Tryz.prog eqTab=true:=by kernel_rfl
theorem ZsL:Zt0 Tryz.prog Zw0=true:=by kernel_rfl
def globs:List (Nat×List AV):=[(0,[.ro [.int .i64] [16,17,18,0,8,7,9,6,10,5,11,4,12,3,13,2,14,1,15]]),(2,[.int .u64 1,.int .u64 10,.int .u64 100,.int .u64 1000,.int .u64 10000,.int .u64 100000,.int .u64 1000000,.int .u64 10000000,.int .u64 100000000,.int .u64 1000000000,.int .u64 10000000000,.int .u64 100000000000,.int .u64 1000000000000,.int .u64 10000000000000,.int .u64 100000000000000,.int .u64 1000000000000000,.int .u64 10000000000000000,.int .u64 100000000000000000,.int .u64 1000000000000000000,.int .u64 10000000000000000000])]
def C0:Ctx:=⟨Zto Zw0,ZpI globs,eqOf eqTab⟩
theorem Zbf:Zgn Tryz.prog C0:=Zw1 rfl Zvv nm rfl Zwq ZsL
end Ev
end
section
open Go Go.Proofs
set_option maxRecDepth 100000
namespace Ev
set_option maxHeartbeats 1000000
def Zbn.S:ZaT:=⟨0,[.sc (.int .i64),.sc (.int .i64),.sc (.int .i64)],[],[.int .i64,.int .i64,.int .i64],⟨[.bool],.sc .bool,[]⟩,
 fun ((n,low,high):Int×Int×Int)=>Zbn n low high⟩
theorem Zbn.ev:∀d,Zbb C0 (hnd (tab [])) Tryz.f146 (.seq .u (.seq (.reg [.bool] [(6,.sc .bool)]) .u)) Zbn.S d=Zbn.S.F d:=fun _=>by kernel_rfl
theorem Zbn.sound:Zah Tryz.prog C0 146 Zbn.S:=sE Zbf Zbn.ev (Zaj trivial) Tryz.func146
def ZcH.S:ZaT:=⟨0,[.sc .str],[],[.str],⟨[.bool],.sc .bool,[]⟩,
 fun (s:Str)=>ZcH s⟩
theorem ZcH.ev:∀d,Zbb C0 (hnd (tab [(146,Zbn.S)])) Tryz.f140 (.seq .u (.seq (.seq .u (.blk (.loopS ⟨[.str,.int .i64,.int .i64],[(0,.sc .str),(6,.sc (.int .i64)),(7,.sc (.int .i64))],[]⟩ (fun ((s1,t,t1):Str×Int×Int)=>(t-t1).toNat+1) 0 ⟨[.str],[(0,.sc .str)],[]⟩ (.seq .u (.seq .u (.seq (.blk (.seq .u (.seq .u (.seq (.reg [.bool] [(38,.sc .bool)]) .u)))) .u)))))) (.seq (.reg [.bool] [(2,.sc .bool)]) .u))) ZcH.S d=ZcH.S.F d:=fun _=>by kernel_rfl
theorem ZcH.sound:Zah Tryz.prog C0 140 ZcH.S:=sE Zbf ZcH.ev (Zaj ⟨Zbn.sound,trivial⟩) Tryz.func140
def ZgA.S:ZaT:=⟨0,[.sc (.int .i64),.sc (.int .i64),.sc (.int .i64)],[],[.int .i64,.int .i64,.int .i64],⟨[.bool],.sc .bool,[]⟩,
 fun ((n,low,high):Int×Int×Int)=>ZgA n low high⟩
theorem ZgA.ev:∀d,Zbb C0 (hnd (tab [])) Tryz.f116 (.seq .u (.seq (.reg [.bool] [(6,.sc .bool)]) .u)) ZgA.S d=ZgA.S.F d:=fun _=>by kernel_rfl
theorem ZgA.sound:Zah Tryz.prog C0 116 ZgA.S:=sE Zbf ZgA.ev (Zaj trivial) Tryz.func116
def Zeh.S:ZaT:=⟨0,[.sc .str,.sc (.int .u8),.sc (.int .i64)],[],[.str,.int .u8,.int .i64],⟨[.list [.str]],.full 0,[.arr [.str]]⟩,
 fun ((s,b,most):Str×Int×Int)=>Zeh s b most⟩
theorem Zeh.ev:∀d,Zbb C0 (hnd (tab [])) Tryz.f141 (.seq .u (.seq .u (.seq .u (.seq (.seq .u (.blk (.loop ⟨[.str,.int .u8,.int .i64,.int .i64,.int .i64,.list [.str]],[(0,.sc .str),(1,.sc (.int .u8)),(2,.sc (.int .i64)),(7,.full 0),(8,.sc (.int .i64)),(9,.sc (.int .i64))],[.arr [.str]]⟩ (fun ((s1,b1,most1,from_,i,out):Str×Int×Int×Int×Int×List Str)=>((s1.length:Int)-i).toNat+1) 0 ⟨[.str,.int .i64,.list [.str]],[(0,.sc .str),(7,.full 0),(8,.sc (.int .i64))],[.arr [.str]]⟩ (.seq (.seq (.reg [.bool] [(20,.sc .bool)]) .u) .u)))) .u)))) Zeh.S d=Zeh.S.F d:=fun _=>by kernel_rfl
theorem Zeh.sound:Zah Tryz.prog C0 141 Zeh.S:=sE Zbf Zeh.ev (Zaj trivial) Tryz.func141
def Zar.S:ZaT:=⟨0,[.sc .str],[],[.str],⟨[.bool],.sc .bool,[]⟩,
 fun (s:Str)=>Zar s⟩
theorem Zar.ev:∀d,Zbb C0 (hnd (tab [(116,ZgA.S),(141,Zeh.S)])) Tryz.f94 (.seq .u (.seq .u (.seq (.seq .u (.blk (.loopS ⟨[.int .i64,.list [.str]],[(3,.full 0),(4,.sc (.int .i64))],[.arr [.str]]⟩ (fun ((i,list):Int×List Str)=>((list.length:Int)-i).toNat+1) 0 ⟨[.list [.str]],[(3,.full 0)],[.arr [.str]]⟩ (.seq .u (.seq (.blk (.seq .u (.seq (.seq .u (.blk (.loopS ⟨[.int .i64,.str,.int .i64,.list [.str]],[(3,.full 0),(4,.sc (.int .i64)),(5,.sc .str),(6,.sc (.int .i64))],[.arr [.str]]⟩ (fun ((i1,w,k,list1):Int×Str×Int×List Str)=>((w.length:Int)-k).toNat+1) 2 ⟨[.int .i64,.str,.list [.str]],[(3,.full 0),(4,.sc (.int .i64)),(5,.sc .str)],[.arr [.str]]⟩ (.seq .u (.seq (.blk (.seq (.reg [.bool] [(68,.sc .bool)]) .u)) .u))))) (.seq (.reg [.bool] [(80,.sc .bool)]) .u)))) .u))))) .u))) Zar.S d=Zar.S.F d:=fun _=>by kernel_rfl
theorem Zar.sound:Zah Tryz.prog C0 94 Zar.S:=sE Zbf Zar.ev (Zaj ⟨ZgA.sound,Zeh.sound,trivial⟩) Tryz.func94
def ZcW.S:ZaT:=⟨0,[.sc .str,.sc .str],[],[.str,.str],⟨[.bool],.sc .bool,[]⟩,
 fun ((a,b):Str×Str)=>ZcW a b⟩
theorem ZcW.ev:∀d,Zbb C0 (hnd (tab [])) Tryz.f107 (.seq .u (.seq (.reg [.bool] [(4,.sc .bool)]) .u)) ZcW.S d=ZcW.S.F d:=fun _=>by kernel_rfl
theorem ZcW.sound:Zah Tryz.prog C0 107 ZcW.S:=sE Zbf ZcW.ev (Zaj trivial) Tryz.func107
def Zcg.S:ZaT:=⟨0,[.sc .str,.sc .str],[],[.str,.str],⟨[.bool],.sc .bool,[]⟩,
 fun ((s,p):Str×Str)=>Zcg s p⟩
theorem Zcg.ev:∀d,Zbb C0 (hnd (tab [])) Tryz.f148 (.seq .u (.seq (.reg [.bool] [(4,.sc .bool)]) .u)) Zcg.S d=Zcg.S.F d:=fun _=>by kernel_rfl
theorem Zcg.sound:Zah Tryz.prog C0 148 Zcg.S:=sE Zbf Zcg.ev (Zaj trivial) Tryz.func148
def Zck.S:ZaT:=⟨0,[.sc .str,.sc .str],[],[.str,.str],⟨[.bool],.sc .bool,[]⟩,
 fun ((s,p):Str×Str)=>Zck s p⟩
theorem Zck.ev:∀d,Zbb C0 (hnd (tab [(148,Zcg.S)])) Tryz.f105 .u Zck.S d=Zck.S.F d:=fun _=>by kernel_rfl
theorem Zck.sound:Zah Tryz.prog C0 105 Zck.S:=sE Zbf Zck.ev (Zaj ⟨Zcg.sound,trivial⟩) Tryz.func105
def Zb0.S:ZaT:=Zie
theorem Zb0.sound:Zah Tryz.prog C0 275 Zb0.S:=Zk7 Tryz.func275 (by kernel_rfl) (by kernel_rfl) (by kernel_rfl) (by kernel_rfl)
def Zdl.S:ZaT:=Ziq
theorem Zdl.sound:Zah Tryz.prog C0 231 Zdl.S:=ZlA Tryz.func231 (by kernel_rfl) (by kernel_rfl) (by kernel_rfl) (by kernel_rfl)
def Zcf.S:ZaT:=⟨0,[.sc .str,.sc (.int .u8)],[],[.str,.int .u8],⟨[.int .i64],.sc (.int .i64),[]⟩,
 fun ((s,c):Str×Int)=>Zcf s c⟩
theorem Zcf.ev:∀d,Zbb C0 (hnd (tab [(275,Zb0.S)])) Tryz.f252 .u Zcf.S d=Zcf.S.F d:=fun _=>by kernel_rfl
theorem Zcf.sound:Zah Tryz.prog C0 252 Zcf.S:=sE Zbf Zcf.ev (Zaj ⟨Zb0.sound,trivial⟩) Tryz.func252
def Zei.S:ZaT:=⟨0,[.sc .str,.cstr [47]],[],[.str],⟨[.int .i64],.sc (.int .i64),[]⟩,
 fun (s:Str)=>Zei s⟩
theorem Zei.ev:∀d,Zbb C0 (hnd (tab [(252,Zcf.S)])) Tryz.f232 (.seq .u (.seq .u (.seq (.blk (.seq (.reg [.bool] [(16,.sc .bool)]) .u)) .u))) Zei.S d=Zei.S.F d:=fun _=>by kernel_rfl
theorem Zei.sound:Zah Tryz.prog C0 232 Zei.S:=sE Zbf Zei.ev (Zaj ⟨Zcf.sound,trivial⟩) Tryz.func232
def Zfq.S:ZaT:=⟨0,[.sc .str,.cstr [47]],[],[.str],⟨[.int .i64],.sc (.int .i64),[]⟩,
 fun (s:Str)=>Zfq s⟩
theorem Zfq.ev:∀d,Zbb C0 (hnd (tab [(232,Zei.S)])) Tryz.f215 .u Zfq.S d=Zfq.S.F d:=fun _=>by kernel_rfl
theorem Zfq.sound:Zah Tryz.prog C0 215 Zfq.S:=sE Zbf Zfq.ev (Zaj ⟨Zei.sound,trivial⟩) Tryz.func215
def ZfZ.S:ZaT:=⟨0,[.sc .str,.cstr [47]],[],[.str],⟨[.int .i64],.sc (.int .i64),[]⟩,
 fun (s:Str)=>ZfZ s⟩
theorem ZfZ.ev:∀d,Zbb C0 (hnd (tab [(231,Zdl.S)])) Tryz.f214 .u ZfZ.S d=ZfZ.S.F d:=fun _=>by kernel_rfl
theorem ZfZ.sound:Zah Tryz.prog C0 214 ZfZ.S:=sE Zbf ZfZ.ev (Zaj ⟨Zdl.sound,trivial⟩) Tryz.func214
def Za9.S:ZaT:=⟨0,[.sc .str,.cstr [47],.cint .i64 0,.cint .i64 (-1)],[],[.str],⟨[.list [.str]],.sc (.list [.str]),[]⟩,
 fun (s:Str)=>Za9 s⟩
theorem Za9.ev:∀d,Zbb C0 (hnd (tab [(214,ZfZ.S),(215,Zfq.S)])) Tryz.f182 (.seq .u (.seq .u (.seq .u (.join ⟨[.str,.int .i64],[(0,.sc .str),(1,.cstr [47]),(2,.cint .i64 0),(3,.sc (.int .i64))],[]⟩ .u (.seq .u (.seq .u (.seq .u (.seq .u (.seq (.blk (.loop ⟨[.str,.int .i64,.int .i64,.list [.str]],[(0,.sc .str),(1,.cstr [47]),(2,.cint .i64 0),(3,.sc (.int .i64)),(9,.full 0),(10,.sc (.int .i64))],[.arr [.str]]⟩ (fun ((s2,n1,i,a):Str×Int×Int×List Str)=>(n1-i).toNat+1) 0 ⟨[.str,.int .i64,.list [.str]],[(0,.sc .str),(9,.full 0),(10,.sc (.int .i64))],[.arr [.str]]⟩ .u)) .u))))))))) Za9.S d=Za9.S.F d:=fun _=>by kernel_rfl
theorem Za9.sound:Zah Tryz.prog C0 182 Za9.S:=sE Zbf Za9.ev (Zaj ⟨ZfZ.sound,Zfq.sound,trivial⟩) Tryz.func182
def Zfh.S:ZaT:=⟨0,[.sc .str,.cstr [47]],[],[.str],⟨[.list [.str]],.sc (.list [.str]),[]⟩,
 fun (s:Str)=>Zfh s⟩
theorem Zfh.ev:∀d,Zbb C0 (hnd (tab [(182,Za9.S)])) Tryz.f139 .u Zfh.S d=Zfh.S.F d:=fun _=>by kernel_rfl
theorem Zfh.sound:Zah Tryz.prog C0 139 Zfh.S:=sE Zbf Zfh.ev (Zaj ⟨Za9.sound,trivial⟩) Tryz.func139
def ZaW.S:ZaT:=⟨0,[.sc .str],[],[.str],⟨[.bool],.sc .bool,[]⟩,
 fun (s:Str)=>ZaW s⟩
theorem ZaW.ev:∀d,Zbb C0 (hnd (tab [(139,Zfh.S),(140,ZcH.S)])) Tryz.f91 (.seq .u (.seq .u (.seq (.seq .u (.blk (.loopS ⟨[.list [.str],.list [.str],.int .i64,.int .i64],[(3,.sc (.list [.str])),(8,.sc (.list [.str])),(9,.sc (.int .i64)),(10,.sc (.int .i64))],[]⟩ (fun ((parts,t,t1,t2):List Str×List Str×Int×Int)=>(t1-t2).toNat+1) 0 ⟨[.list [.str]],[(3,.sc (.list [.str]))],[]⟩ .u))) .u))) ZaW.S d=ZaW.S.F d:=fun _=>by kernel_rfl
theorem ZaW.sound:Zah Tryz.prog C0 91 ZaW.S:=sE Zbf ZaW.ev (Zaj ⟨Zfh.sound,ZcH.sound,trivial⟩) Tryz.func91
def ZcO.S:ZaT:=⟨0,[.sc (.list [.str])],[],[.list [.str]],⟨[.bool],.sc .bool,[]⟩,
 fun (xs:List Str)=>ZcO xs⟩
theorem ZcO.ev:∀d,Zbb C0 (hnd (tab [(105,Zck.S)])) Tryz.f92 (.seq .u (.seq (.seq .u (.blk (.loopS ⟨[.list [.str],.list [.str],.int .i64,.int .i64],[(0,.sc (.list [.str])),(7,.sc (.list [.str])),(8,.sc (.int .i64)),(9,.sc (.int .i64))],[]⟩ (fun ((names,t,t1,t2):List Str×List Str×Int×Int)=>(t1-t2).toNat+1) 0 ⟨[],[],[]⟩ (.seq .u (.seq .u (.seq (.blk (.seq .u (.seq .u (.blk (.loopS ⟨[.list [.str],.str,.list [.str],.int .i64,.int .i64,.list [.str],.int .i64,.int .i64],[(0,.sc (.list [.str])),(4,.sc .str),(7,.sc (.list [.str])),(8,.sc (.int .i64)),(9,.sc (.int .i64)),(16,.sc (.list [.str])),(17,.sc (.int .i64)),(18,.sc (.int .i64))],[]⟩ (fun ((names1,a,t3,t4,t5,t6,t7,t8):List Str×Str×List Str×Int×Int×List Str×Int×Int)=>(t7-t8).toNat+1) 2 ⟨[.list [.str],.list [.str],.int .i64,.int .i64],[(0,.sc (.list [.str])),(7,.sc (.list [.str])),(8,.sc (.int .i64)),(9,.sc (.int .i64))],[]⟩ (.seq .u (.seq .u (.seq (.blk (.seq .u (.seq (.reg [.bool] [(36,.sc .bool)]) .u))) .u)))))))) .u)))))) .u)) ZcO.S d=ZcO.S.F d:=fun _=>by kernel_rfl
theorem ZcO.sound:Zah Tryz.prog C0 92 ZcO.S:=sE Zbf ZcO.ev (Zaj ⟨Zck.sound,trivial⟩) Tryz.func92
def ZdO.S:ZaT:=⟨0,[.agg [.sc (.int .i64),.sc (.int .i64)]],[],[.int .i64,.int .i64],⟨[.bool],.sc .bool,[]⟩,
 fun ((num,bits):Int×Int)=>ZdO num bits⟩
theorem ZdO.ev:∀d,Zbb C0 (hnd (tab [(146,Zbn.S)])) Tryz.f250 (.seq .u (.seq (.reg [.bool] [(2,.sc .bool)]) .u)) ZdO.S d=ZdO.S.F d:=fun _=>by kernel_rfl
theorem ZdO.sound:Zah Tryz.prog C0 250 ZdO.S:=sE Zbf ZdO.ev (Zaj ⟨Zbn.sound,trivial⟩) Tryz.func250
def Zen.S:ZaT:=⟨1,[.ptr 0 0,.sc (.int .i64),.sc (.int .i64)],[.box [.full 1,.sc (.int .i64)],.arr [.int .u8]],[.int .i64,.int .i64,.int .i64,.list [.int .u8]],⟨[.int .i64,.list [.int .u8]],.tup [],[.box [.full 1,.sc (.int .i64)],.arr [.int .u8]]⟩,
 fun ((num,bits,many,b):Int×Int×Int×List Int)=>Zen num bits many b⟩
theorem Zen.ev:∀d,Zbb C0 (hnd (tab [])) Tryz.f202 (.seq .u (.blk (.loop ⟨[.int .i64,.int .i64,.int .i64,.int .i64,.list [.int .u8]],[(0,.ptr 0 0),(1,.sc (.int .i64)),(7,.sc (.int .i64)),(8,.sc (.int .i64))],[.box [.full 1,.sc (.int .i64)],.arr [.int .u8]]⟩ (fun ((num1,t,t1,o,o1):Int×Int×Int×Int×List Int)=>(t-t1).toNat+1) 0 ⟨[.int .i64,.list [.int .u8]],[],[.box [.full 1,.sc (.int .i64)],.arr [.int .u8]]⟩ (.seq .u (.seq .u (.seq (.blk (.seq .u (.join ⟨[.int .i64,.int .i64,.int .i64,.int .i64,.int .i64,.list [.int .u8]],[(0,.ptr 0 0),(1,.sc (.int .i64)),(6,.sc (.int .i64)),(7,.sc (.int .i64)),(8,.sc (.int .i64))],[.box [.full 1,.sc (.int .i64)],.arr [.int .u8]]⟩ .u .u))) .u)))))) Zen.S d=Zen.S.F d:=fun _=>by kernel_rfl
theorem Zen.sound:Zah Tryz.prog C0 202 Zen.S:=sE Zbf Zen.ev (Zaj trivial) Tryz.func202
def ZiC.S:ZaT:=⟨1,[.ptr 0 0],[.box [.full 1,.sc (.int .i64)],.arr [.int .u8]],[.int .i64,.list [.int .u8]],⟨[.int .i64,.list [.int .u8]],.tup [],[.box [.full 1,.sc (.int .i64)],.arr [.int .u8]]⟩,
 fun ((many,b):Int×List Int)=>ZiC many b⟩
theorem ZiC.ev:∀d,Zbb C0 (hnd (tab [])) Tryz.f203 .u ZiC.S d=ZiC.S.F d:=fun _=>by kernel_rfl
theorem ZiC.sound:Zah Tryz.prog C0 203 ZiC.S:=sE Zbf ZiC.ev (Zaj trivial) Tryz.func203
def ZhB.S:ZaT:=⟨1,[.ptr 0 0],[.box [.sc .str,.sc (.int .i64),.sc .bool]],[.str,.int .i64,.bool],⟨[.int .i64,.str,.int .i64,.bool],.sc (.int .i64),[.box [.sc .str,.sc (.int .i64),.sc .bool]]⟩,
 fun ((s,at_,bad):Str×Int×Bool)=>ZhB s at_ bad⟩
theorem ZhB.ev:∀d,Zbb C0 (hnd (tab [])) Tryz.f169 .u ZhB.S d=ZhB.S.F d:=fun _=>by kernel_rfl
theorem ZhB.sound:Zah Tryz.prog C0 169 ZhB.S:=sE Zbf ZhB.ev (Zaj trivial) Tryz.func169
def Zeq.S:ZaT:=⟨1,[.ptr 0 0,.sc (.int .i64)],[.box [.sc .str,.sc (.int .i64),.sc .bool]],[.int .i64,.str,.int .i64,.bool],⟨[.int .i64,.str,.int .i64,.bool],.sc (.int .i64),[.box [.sc .str,.sc (.int .i64),.sc .bool]]⟩,
 fun ((bits,s,at_,bad):Int×Str×Int×Bool)=>Zeq bits s at_ bad⟩
theorem Zeq.ev:∀d,Zbb C0 (hnd (tab [(169,ZhB.S)])) Tryz.f170 (.seq .u (.seq .u (.seq (.seq .u (.blk (.loop ⟨[.int .i64,.int .i64,.int .i64,.str,.int .i64,.bool],[(0,.ptr 0 0),(5,.sc (.int .i64)),(7,.sc (.int .i64)),(8,.sc (.int .i64))],[.box [.sc .str,.sc (.int .i64),.sc .bool]]⟩ (fun ((n,t,t1,o,o1,o2):Int×Int×Int×Str×Int×Bool)=>(t-t1).toNat+1) 0 ⟨[.int .i64,.str,.int .i64,.bool],[(5,.sc (.int .i64))],[.box [.sc .str,.sc (.int .i64),.sc .bool]]⟩ .u))) .u))) Zeq.S d=Zeq.S.F d:=fun _=>by kernel_rfl
theorem Zeq.sound:Zah Tryz.prog C0 170 Zeq.S:=sE Zbf Zeq.ev (Zaj ⟨ZhB.sound,trivial⟩) Tryz.func170
def ZdJ.S:ZaT:=⟨1,[.ptr 0 0],[.box [.sc .str,.sc (.int .i64),.sc .bool]],[.str,.int .i64,.bool],⟨[.str,.int .i64,.bool],.tup [],[.box [.sc .str,.sc (.int .i64),.sc .bool]]⟩,
 fun ((s,at_,bad):Str×Int×Bool)=>ZdJ s at_ bad⟩
theorem ZdJ.ev:∀d,Zbb C0 (hnd (tab [(169,ZhB.S)])) Tryz.f175 (.blk (.loop ⟨[.str,.int .i64,.bool],[(0,.ptr 0 0)],[.box [.sc .str,.sc (.int .i64),.sc .bool]]⟩ (fun ((o,o1,o2):Str×Int×Bool)=>9) 0 ⟨[.str,.int .i64,.bool],[],[.box [.sc .str,.sc (.int .i64),.sc .bool]]⟩ .u)) ZdJ.S d=ZdJ.S.F d:=fun _=>by kernel_rfl
theorem ZdJ.sound:Zah Tryz.prog C0 175 ZdJ.S:=sE Zbf ZdJ.ev (Zaj ⟨ZhB.sound,trivial⟩) Tryz.func175
def Zbr.S:ZaT:=⟨0,[.sc (.int .i64),.sc (.int .i64)],[],[.int .i64,.int .i64],⟨[.int .i64],.sc (.int .i64),[]⟩,
 fun ((num,bits):Int×Int)=>Zbr num bits⟩
theorem Zbr.ev:∀d,Zbb C0 (hnd (tab [(250,ZdO.S)])) Tryz.f228 (.seq .u (.seq .u (.seq .u (.seq (.seq .u (.blk (.loop ⟨[.int .i64,.int .i64,.int .i64,.int .i64],[(0,.sc (.int .i64)),(5,.sc (.int .i64)),(12,.sc (.int .i64)),(13,.sc (.int .i64))],[]⟩ (fun ((num1,out,t,t1):Int×Int×Int×Int)=>(t-t1).toNat+1) 0 ⟨[.int .i64],[(5,.sc (.int .i64))],[]⟩ .u))) .u)))) Zbr.S d=Zbr.S.F d:=fun _=>by kernel_rfl
theorem Zbr.sound:Zah Tryz.prog C0 228 Zbr.S:=sE Zbf Zbr.ev (Zaj ⟨ZdO.sound,trivial⟩) Tryz.func228
def ZaC.S:ZaT:=⟨0,[.sc (.int .u32),.sc .str],[],[.int .u32,.str],⟨[.int .u32],.sc (.int .u32),[]⟩,
 fun ((crc_,text):Int×Str)=>ZaC crc_ text⟩
theorem ZaC.ev:∀d,Zbb C0 (hnd (tab [])) Tryz.f201 (.seq .u (.seq .u (.seq (.seq .u (.blk (.loop ⟨[.int .u32,.str,.int .i64],[(0,.sc (.int .u32)),(1,.sc .str),(5,.sc (.int .i64))],[]⟩ (fun ((crc_1,text1,k):Int×Str×Int)=>((text1.length:Int)-k).toNat+1) 0 ⟨[.int .u32],[(0,.sc (.int .u32))],[]⟩ (.seq .u (.seq (.blk (.seq .u (.seq .u (.blk (.loop ⟨[.int .u32,.str,.int .i64,.int .i64],[(0,.sc (.int .u32)),(1,.sc .str),(5,.sc (.int .i64)),(20,.sc (.int .i64))],[]⟩ (fun ((crc_2,text2,k1,t):Int×Str×Int×Int)=>(8-t).toNat+1) 2 ⟨[.int .u32,.str,.int .i64],[(0,.sc (.int .u32)),(1,.sc .str),(5,.sc (.int .i64))],[]⟩ .u))))) .u))))) .u))) ZaC.S d=ZaC.S.F d:=fun _=>by kernel_rfl
theorem ZaC.sound:Zah Tryz.prog C0 201 ZaC.S:=sE Zbf ZaC.ev (Zaj trivial) Tryz.func201
def crc.S:ZaT:=⟨0,[.sc .str],[],[.str],⟨[.int .i64],.sc (.int .i64),[]⟩,
 fun (text:Str)=>crc text⟩
theorem crc.ev:∀d,Zbb C0 (hnd (tab [(201,ZaC.S)])) Tryz.f176 .u crc.S d=crc.S.F d:=fun _=>by kernel_rfl
theorem crc.sound:Zah Tryz.prog C0 176 crc.S:=sE Zbf crc.ev (Zaj ⟨ZaC.sound,trivial⟩) Tryz.func176
def ZbQ.S:ZaT:=⟨0,[.sc (.list [.int .i64])],[],[.list [.int .i64]],⟨[.bool],.sc .bool,[]⟩,
 fun (lens:List Int)=>ZbQ lens⟩
theorem ZbQ.ev:∀d,Zbb C0 (hnd (tab [(146,Zbn.S)])) Tryz.f195 (.seq .u (.seq .u (.seq .u (.seq (.seq .u (.blk (.loopS ⟨[.int .i64,.int .i64,.int .i64,.list [.int .i64],.int .i64,.int .i64],[(3,.sc (.int .i64)),(4,.sc (.int .i64)),(5,.sc (.int .i64)),(11,.sc (.list [.int .i64])),(12,.sc (.int .i64)),(13,.sc (.int .i64))],[]⟩ (fun ((sum,many,last,t,t1,t2):Int×Int×Int×List Int×Int×Int)=>(t1-t2).toNat+1) 0 ⟨[.int .i64,.int .i64,.int .i64],[(3,.sc (.int .i64)),(4,.sc (.int .i64)),(5,.sc (.int .i64))],[]⟩ .u))) (.seq (.reg [.bool] [(2,.sc .bool)]) .u))))) ZbQ.S d=ZbQ.S.F d:=fun _=>by kernel_rfl
theorem ZbQ.sound:Zah Tryz.prog C0 195 ZbQ.S:=sE Zbf ZbQ.ev (Zaj ⟨Zbn.sound,trivial⟩) Tryz.func195
def Zcc.S:ZaT:=⟨0,[.sc (.list [.int .i64])],[],[.list [.int .i64]],⟨[.list [.int .i64]],.full 0,[.arr [.int .i64]]⟩,
 fun (lens:List Int)=>Zcc lens⟩
theorem Zcc.ev:∀d,Zbb C0 (hnd (tab [])) Tryz.f209 (.seq .u (.seq .u (.seq .u (.seq (.seq .u (.blk (.loop ⟨[.list [.int .i64],.int .i64,.int .i64,.list [.int .i64]],[(0,.sc (.list [.int .i64])),(3,.full 0),(4,.sc (.int .i64)),(5,.sc (.int .i64))],[.arr [.int .i64]]⟩ (fun ((lens1,next_,l,out):List Int×Int×Int×List Int)=>(15-l).toNat+2) 0 ⟨[.list [.int .i64]],[(3,.full 0)],[.arr [.int .i64]]⟩ (.seq .u (.seq (.blk (.seq (.seq .u (.blk (.loop ⟨[.list [.int .i64],.int .i64,.int .i64,.list [.int .i64],.int .i64,.int .i64,.list [.int .i64]],[(0,.sc (.list [.int .i64])),(3,.full 0),(4,.sc (.int .i64)),(5,.sc (.int .i64)),(15,.sc (.list [.int .i64])),(16,.sc (.int .i64)),(17,.sc (.int .i64))],[.arr [.int .i64]]⟩ (fun ((lens2,next_1,l1,t,t1,t2,out1):List Int×Int×Int×List Int×Int×Int×List Int)=>(t1-t2).toNat+1) 2 ⟨[.list [.int .i64],.int .i64,.int .i64,.list [.int .i64]],[(0,.sc (.list [.int .i64])),(3,.full 0),(4,.sc (.int .i64)),(5,.sc (.int .i64))],[.arr [.int .i64]]⟩ .u))) .u)) .u))))) .u)))) Zcc.S d=Zcc.S.F d:=fun _=>by kernel_rfl
theorem Zcc.sound:Zah Tryz.prog C0 209 Zcc.S:=sE Zbf Zcc.ev (Zaj trivial) Tryz.func209
def ZaV.S:ZaT:=⟨0,[.sc (.list [.int .i64,.ints .i64])],[],[.list [.int .i64,.ints .i64]],⟨[.int .i64,.list [.int .i64],.list [.int .i64,.ints .i64]],.tup [.agg [.sc (.int .i64),.sc (.list [.int .i64])],.full 0],[.arr [.int .i64,.ints .i64]]⟩,
 fun (list:List (Int×List Int))=>ZaV list⟩
theorem ZaV.ev:∀d,Zbb C0 (hnd (tab [])) Tryz.f249 (.seq .u (.seq .u (.seq (.seq .u (.blk (.loop ⟨[.list [.int .i64,.ints .i64],.int .i64,.list [.int .i64,.ints .i64],.int .i64,.int .i64,.int .i64,.list [.int .i64]],[(0,.sc (.list [.int .i64,.ints .i64])),(2,.ptr 0 0),(4,.sc (.int .i64)),(8,.sc (.list [.int .i64,.ints .i64])),(9,.sc (.int .i64)),(10,.sc (.int .i64))],[.box [.sc (.int .i64),.full 1],.arr [.int .i64]]⟩ (fun ((list1,at_,t,t1,t2,o,o1):(List (Int×List Int))×Int×(List (Int×List Int))×Int×Int×Int×List Int)=>(t1-t2).toNat+1) 0 ⟨[.list [.int .i64,.ints .i64],.int .i64,.int .i64,.list [.int .i64]],[(0,.sc (.list [.int .i64,.ints .i64])),(2,.ptr 0 0),(4,.sc (.int .i64))],[.box [.sc (.int .i64),.full 1],.arr [.int .i64]]⟩ (.seq .u (.seq .u (.seq (.blk (.seq .u (.seq (.reg [.bool] [(46,.sc .bool)]) .u))) .u)))))) .u))) ZaV.S d=ZaV.S.F d:=fun _=>by kernel_rfl
theorem ZaV.sound:Zah Tryz.prog C0 249 ZaV.S:=sE Zbf ZaV.ev (Zaj trivial) Tryz.func249
def Zbc.S:ZaT:=⟨0,[.sc (.list [.int .i64])],[],[.list [.int .i64]],⟨[.list [.int .i64]],.full 0,[.arr [.int .i64]]⟩,
 fun (counts:List Int)=>Zbc counts⟩
theorem Zbc.ev:∀d,Zbb C0 (hnd (tab [(249,ZaV.S)])) Tryz.f227 (.seq .u (.seq .u (.seq .u (.seq (.seq .u (.blk (.loop ⟨[.list [.int .i64],.int .i64,.int .i64,.list [.int .i64],.list [.int .i64,.ints .i64]],[(3,.full 0),(4,.full 1),(18,.sc (.list [.int .i64])),(19,.sc (.int .i64)),(20,.sc (.int .i64))],[.arr [.int .i64],.arr [.int .i64,.ints .i64]]⟩ (fun ((t,t1,t2,out,list):List Int×Int×Int×List Int×List (Int×List Int))=>(t1-t2).toNat+1) 0 ⟨[.list [.int .i64],.list [.int .i64,.ints .i64]],[(3,.full 0),(4,.full 1)],[.arr [.int .i64],.arr [.int .i64,.ints .i64]]⟩ .u))) (.seq .u (.seq (.blk (.loop ⟨[.list [.int .i64],.list [.int .i64,.ints .i64]],[(3,.full 0),(4,.full 1)],[.arr [.int .i64],.arr [.int .i64,.ints .i64]]⟩ (fun ((out2,list2):List Int×List (Int×List Int))=>((list2.length:Int)-1).toNat+1) 2 ⟨[.list [.int .i64]],[(3,.full 0)],[.arr [.int .i64]]⟩ (.seq .u (.blk (.seq .u (.seq .u (.seq .u (.seq (.seq .u (.blk (.loop ⟨[.int .i64,.int .i64,.list [.int .i64],.int .i64,.list [.int .i64],.int .i64,.list [.int .i64],.list [.int .i64,.ints .i64],.list [.int .i64]],[(3,.full 0),(7,.ptr 1 0),(9,.ptr 2 0),(10,.full 3),(11,.full 4),(67,.full 4),(68,.sc (.int .i64)),(69,.sc (.int .i64))],[.arr [.int .i64],.box [.sc (.int .i64),.sc (.list [.int .i64])],.box [.sc (.int .i64),.sc (.list [.int .i64])],.arr [.int .i64,.ints .i64],.arr [.int .i64]]⟩ (fun ((t3,t4,out3,o,o1,o2,o3,left,o4):Int×Int×List Int×Int×List Int×Int×List Int×(List (Int×List Int))×List Int)=>(t3-t4).toNat+1) 4 ⟨[.list [.int .i64],.int .i64,.list [.int .i64],.int .i64,.list [.int .i64],.list [.int .i64,.ints .i64],.list [.int .i64]],[(3,.full 0),(7,.ptr 1 0),(9,.ptr 2 0),(10,.full 3),(11,.full 4)],[.arr [.int .i64],.box [.sc (.int .i64),.sc (.list [.int .i64])],.box [.sc (.int .i64),.sc (.list [.int .i64])],.arr [.int .i64,.ints .i64],.arr [.int .i64]]⟩ .u))) .u)))))))) .u)))))) Zbc.S d=Zbc.S.F d:=fun _=>by kernel_rfl
theorem Zbc.sound:Zah Tryz.prog C0 227 Zbc.S:=sE Zbf Zbc.ev (Zaj ⟨ZaV.sound,trivial⟩) Tryz.func227
def ZaR.S:ZaT:=⟨0,[.sc (.list [.int .i64]),.sc (.int .i64)],[],[.list [.int .i64],.int .i64],⟨[.list [.int .i64]],.full 0,[.arr [.int .i64]]⟩,
 fun ((counts,most):List Int×Int)=>ZaR counts most⟩
theorem ZaR.ev:∀d,Zbb C0 (hnd (tab [(146,Zbn.S),(227,Zbc.S)])) Tryz.f208 (.seq .u (.seq (.seq (.reg [.bool] [(21,.sc .bool)]) .u) (.seq .u (.seq .u (.seq (.seq .u (.blk (.loopS ⟨[.int .i64,.int .i64,.list [.int .i64],.int .i64,.int .i64,.list [.int .i64]],[(1,.sc (.int .i64)),(5,.full 0),(6,.sc (.int .i64)),(24,.sc (.list [.int .i64])),(25,.sc (.int .i64)),(26,.sc (.int .i64))],[.arr [.int .i64]]⟩ (fun ((most1,many,t,t1,t2,now):Int×Int×List Int×Int×Int×List Int)=>(t1-t2).toNat+1) 0 ⟨[.int .i64,.int .i64,.list [.int .i64]],[(1,.sc (.int .i64)),(5,.full 0),(6,.sc (.int .i64))],[.arr [.int .i64]]⟩ .u))) (.seq .u (.blk (.loopS ⟨[.int .i64,.list [.int .i64]],[(1,.sc (.int .i64)),(5,.full 0)],[.arr [.int .i64]]⟩ (fun ((most3,now2):Int×List Int)=>100000) 9999 ⟨[],[],[]⟩ (.blk (.seq .u (.seq .u (.seq (.seq .u (.blk (.loop ⟨[.int .i64,.int .i64,.int .i64,.int .i64,.list [.int .i64],.list [.int .i64]],[(1,.sc (.int .i64)),(5,.full 0),(9,.full 1),(10,.sc (.int .i64)),(52,.full 1),(53,.sc (.int .i64)),(54,.sc (.int .i64))],[.arr [.int .i64],.arr [.int .i64]]⟩ (fun ((most4,long,t3,t4,now3,o):Int×Int×Int×Int×List Int×List Int)=>(t3-t4).toNat+1) 4 ⟨[.int .i64,.int .i64,.list [.int .i64],.list [.int .i64]],[(1,.sc (.int .i64)),(5,.full 0),(9,.full 1),(10,.sc (.int .i64))],[.arr [.int .i64],.arr [.int .i64]]⟩ .u))) (.seq .u (.seq .u (.blk (.loop ⟨[.int .i64,.int .i64,.int .i64,.list [.int .i64]],[(1,.sc (.int .i64)),(5,.full 0),(67,.sc (.int .i64)),(68,.sc (.int .i64))],[.arr [.int .i64]]⟩ (fun ((most6,t5,t6,now5):Int×Int×Int×List Int)=>(t5-t6).toNat+1) 6 ⟨[.int .i64,.list [.int .i64]],[(1,.sc (.int .i64)),(5,.full 0)],[.arr [.int .i64]]⟩ .u)))))))))))))))) ZaR.S d=ZaR.S.F d:=fun _=>by kernel_rfl
theorem ZaR.sound:Zah Tryz.prog C0 208 ZaR.S:=sE Zbf ZaR.ev (Zaj ⟨Zbn.sound,Zbc.sound,trivial⟩) Tryz.func208
def ZbS.S:ZaT:=⟨0,[.sc (.list [.int .i64])],[],[.list [.int .i64]],⟨[.map [.int .i64,.int .i64] [.int .i64]],.map 0,[.map [.int .i64,.int .i64] [.int .i64]]⟩,
 fun (lens:List Int)=>ZbS lens⟩
theorem ZbS.ev:∀d,Zbb C0 (hnd (tab [(209,Zcc.S)])) Tryz.f196 (.seq .u (.seq .u (.seq (.seq .u (.blk (.loop ⟨[.list [.int .i64],.int .i64,.int .i64,.map [.int .i64,.int .i64] [.int .i64],.list [.int .i64]],[(0,.sc (.list [.int .i64])),(3,.map 0),(8,.full 1),(9,.sc (.int .i64)),(10,.sc (.int .i64))],[.map [.int .i64,.int .i64] [.int .i64],.arr [.int .i64]]⟩ (fun ((lens1,t,t1,o,o1):List Int×Int×Int×(List ((Int×Int)×Int))×List Int)=>(t-t1).toNat+1) 0 ⟨[.map [.int .i64,.int .i64] [.int .i64]],[(3,.map 0)],[.map [.int .i64,.int .i64] [.int .i64]]⟩ .u))) .u))) ZbS.S d=ZbS.S.F d:=fun _=>by kernel_rfl
theorem ZbS.sound:Zah Tryz.prog C0 196 ZbS.S:=sE Zbf ZbS.ev (Zaj ⟨Zcc.sound,trivial⟩) Tryz.func196
end Ev
end
section
open Go Go.Proofs
set_option maxRecDepth 100000
namespace Ev
set_option maxHeartbeats 1000000
def Zbd.S:ZaT:=⟨2,[.ptr 0 0,.map 1],[.box [.sc .str,.sc (.int .i64),.sc .bool],.map [.int .i64,.int .i64] [.int .i64]],[.str,.int .i64,.bool,.map [.int .i64,.int .i64] [.int .i64]],⟨[.int .i64,.str,.int .i64,.bool,.map [.int .i64,.int .i64] [.int .i64]],.sc (.int .i64),[.box [.sc .str,.sc (.int .i64),.sc .bool],.map [.int .i64,.int .i64] [.int .i64]]⟩,
 fun ((s,at_,bad,book):Str×Int×Bool×List ((Int×Int)×Int))=>Zbd s at_ bad book⟩
theorem Zbd.ev:∀d,Zbb C0 (hnd (tab [(169,ZhB.S)])) Tryz.f197 (.seq .u (.seq .u (.seq (.seq .u (.blk (.loopS ⟨[.int .i64,.int .i64,.str,.int .i64,.bool,.map [.int .i64,.int .i64] [.int .i64]],[(0,.ptr 0 0),(1,.map 1),(5,.sc (.int .i64)),(6,.sc (.int .i64))],[.box [.sc .str,.sc (.int .i64),.sc .bool],.map [.int .i64,.int .i64] [.int .i64]]⟩ (fun ((code_,l,o,o1,o2,o3):Int×Int×Str×Int×Bool×List ((Int×Int)×Int))=>(15-l).toNat+2) 0 ⟨[.str,.int .i64,.bool,.map [.int .i64,.int .i64] [.int .i64]],[(0,.ptr 0 0)],[.box [.sc .str,.sc (.int .i64),.sc .bool],.map [.int .i64,.int .i64] [.int .i64]]⟩ (.seq .u (.seq (.blk (.seq .u (.seq .u (.seq (.reg [.bool] [(33,.sc .bool)]) .u)))) .u))))) .u))) Zbd.S d=Zbd.S.F d:=fun _=>by kernel_rfl
theorem Zbd.sound:Zah Tryz.prog C0 197 Zbd.S:=sE Zbf Zbd.ev (Zaj ⟨ZhB.sound,trivial⟩) Tryz.func197
def add.S:ZaT:=⟨0,[.full 0,.agg [.sc (.int .i64),.sc (.int .i64),.sc (.int .i64)]],[.arr [.int .u8]],[.int .i64,.int .i64,.int .i64,.list [.int .u8]],⟨[.bool,.list [.int .u8]],.tup [.full 0,.sc .bool],[.arr [.int .u8]]⟩,
 fun ((byte,long,back,out):Int×Int×Int×List Int)=>add byte long back out⟩
theorem add.ev:∀d,Zbb C0 (hnd (tab [(146,Zbn.S)])) Tryz.f200 (.seq .u (.seq (.seq .u (.cond (.seq (.seq (.reg [.bool] [(17,.sc .bool)]) .u) .u) .u)) (.seq (.seq (.reg [.bool] [(41,.sc .bool)]) .u) (.seq (.seq .u (.blk (.loop ⟨[.int .i64,.int .i64,.list [.int .u8],.int .i64,.int .i64,.int .i64],[(0,.full 0),(3,.ptr 1 0),(43,.sc (.int .i64)),(44,.sc (.int .i64))],[.arr [.int .u8],.box [.sc (.int .i64),.sc (.int .i64),.sc (.int .i64)]]⟩ (fun ((t,t1,out1,o,o1,o2):Int×Int×List Int×Int×Int×Int)=>(t-t1).toNat+1) 0 ⟨[.list [.int .u8]],[(0,.full 0)],[.arr [.int .u8]]⟩ .u))) .u)))) add.S d=add.S.F d:=fun _=>by kernel_rfl
theorem add.sound:Zah Tryz.prog C0 200 add.S:=sE Zbf add.ev (Zaj ⟨Zbn.sound,trivial⟩) Tryz.func200
def Zap.S:ZaT:=⟨0,[.sc .str],[],[.str],⟨[.list [.int .i64,.int .i64,.int .i64]],.full 0,[.arr [.int .i64,.int .i64,.int .i64]]⟩,
 fun (text:Str)=>Zap text⟩
theorem Zap.ev:∀d,Zbb C0 (hnd (tab [])) Tryz.f205 (.seq .u (.seq .u (.seq .u (.seq (.seq .u (.blk (.loop ⟨[.str,.int .i64,.list [.int .i64,.int .i64,.int .i64]],[(0,.sc .str),(3,.full 0),(4,.sc (.int .i64))],[.arr [.int .i64,.int .i64,.int .i64]]⟩ (fun ((text1,at_,out):Str×Int×List (Int×Int×Int))=>((text1.length:Int)-at_).toNat+1) 0 ⟨[.list [.int .i64,.int .i64,.int .i64]],[(3,.full 0)],[.arr [.int .i64,.int .i64,.int .i64]]⟩ (.seq .u (.blk (.seq .u (.seq (.seq .u (.blk (.loop ⟨[.str,.int .i64,.int .i64,.list [.int .i64,.int .i64,.int .i64],.int .i64,.int .i64,.int .i64],[(0,.sc .str),(3,.full 0),(4,.sc (.int .i64)),(5,.ptr 1 0),(6,.sc (.int .i64))],[.arr [.int .i64,.int .i64,.int .i64],.box [.sc (.int .i64),.sc (.int .i64),.sc (.int .i64)]]⟩ (fun ((text2,at_1,back,out1,o,o1,o2):Str×Int×Int×(List (Int×Int×Int))×Int×Int×Int)=>((ZjH 250 at_1)-back).toNat+2) 2 ⟨[.str,.int .i64,.list [.int .i64,.int .i64,.int .i64],.int .i64,.int .i64,.int .i64],[(0,.sc .str),(3,.full 0),(4,.sc (.int .i64)),(5,.ptr 1 0)],[.arr [.int .i64,.int .i64,.int .i64],.box [.sc (.int .i64),.sc (.int .i64),.sc (.int .i64)]]⟩ (.seq .u (.seq (.blk (.seq .u (.seq (.blk (.loop ⟨[.str,.int .i64,.int .i64,.int .i64,.list [.int .i64,.int .i64,.int .i64],.int .i64,.int .i64,.int .i64],[(0,.sc .str),(3,.full 0),(4,.sc (.int .i64)),(5,.ptr 1 0),(6,.sc (.int .i64)),(7,.sc (.int .i64))],[.arr [.int .i64,.int .i64,.int .i64],.box [.sc (.int .i64),.sc (.int .i64),.sc (.int .i64)]]⟩ (fun ((text3,at_2,back1,n,out2,o3,o4,o5):Str×Int×Int×Int×(List (Int×Int×Int))×Int×Int×Int)=>(60-n).toNat+1) 4 ⟨[.str,.int .i64,.int .i64,.int .i64,.list [.int .i64,.int .i64,.int .i64],.int .i64,.int .i64,.int .i64],[(0,.sc .str),(3,.full 0),(4,.sc (.int .i64)),(5,.ptr 1 0),(6,.sc (.int .i64)),(7,.sc (.int .i64))],[.arr [.int .i64,.int .i64,.int .i64],.box [.sc (.int .i64),.sc (.int .i64),.sc (.int .i64)]]⟩ (.seq (.seq (.reg [.bool] [(52,.sc .bool)]) .u) .u))) (.seq (.reg [.bool] [(62,.sc .bool)]) .u)))) .u))))) .u))))))) .u)))) Zap.S d=Zap.S.F d:=fun _=>by kernel_rfl
theorem Zap.sound:Zah Tryz.prog C0 205 Zap.S:=sE Zbf Zap.ev (Zaj trivial) Tryz.func205
def Zb3.S:ZaT:=⟨0,[.sc (.int .i64),.sc (.int .i64),.sc (.int .i64),.sc (.int .i64)],[],[.int .i64,.int .i64,.int .i64,.int .i64],⟨[.list [.int .i64],.list [.int .i64]],.agg [.sc (.list [.int .i64]),.sc (.list [.int .i64])],[]⟩,
 fun ((from_,many,plain,each):Int×Int×Int×Int)=>Zb3 from_ many plain each⟩
theorem Zb3.ev:∀d,Zbb C0 (hnd (tab [])) Tryz.f226 (.seq .u (.seq .u (.seq (.seq .u (.blk (.loop ⟨[.int .i64,.int .i64,.int .i64,.int .i64,.int .i64,.list [.int .i64],.list [.int .i64],.list [.int .i64],.list [.int .i64]],[(0,.sc (.int .i64)),(2,.sc (.int .i64)),(3,.sc (.int .i64)),(8,.ptr 0 0),(9,.ptr 1 0),(13,.sc (.int .i64)),(14,.sc (.int .i64))],[.box [.full 2,.full 3],.box [.full 4,.full 5],.arr [.int .i64],.arr [.int .i64],.arr [.int .i64],.arr [.int .i64]]⟩ (fun ((from_1,plain1,each1,t,t1,o,o1,o2,o3):Int×Int×Int×Int×Int×List Int×List Int×List Int×List Int)=>(t-t1).toNat+1) 0 ⟨[.list [.int .i64],.list [.int .i64],.list [.int .i64],.list [.int .i64]],[(8,.ptr 0 0),(9,.ptr 1 0)],[.box [.full 2,.full 3],.box [.full 4,.full 5],.arr [.int .i64],.arr [.int .i64],.arr [.int .i64],.arr [.int .i64]]⟩ (.seq .u (.seq .u (.seq (.blk (.seq .u (.seq .u (.join ⟨[.int .i64,.int .i64,.int .i64,.int .i64,.int .i64,.int .i64,.list [.int .i64],.list [.int .i64],.list [.int .i64],.list [.int .i64]],[(0,.sc (.int .i64)),(2,.sc (.int .i64)),(3,.sc (.int .i64)),(8,.ptr 0 0),(9,.ptr 1 0),(11,.sc (.int .i64)),(13,.sc (.int .i64)),(14,.sc (.int .i64))],[.box [.full 2,.full 3],.box [.full 4,.full 5],.arr [.int .i64],.arr [.int .i64],.arr [.int .i64],.arr [.int .i64]]⟩ .u .u)))) .u)))))) .u))) Zb3.S d=Zb3.S.F d:=fun _=>by kernel_rfl
theorem Zb3.sound:Zah Tryz.prog C0 226 Zb3.S:=sE Zbf Zb3.ev (Zaj trivial) Tryz.func226
def ZbI.S:ZaT:=⟨0,[],[],[],⟨[.list [.int .i64],.list [.int .i64]],.agg [.sc (.list [.int .i64]),.sc (.list [.int .i64])],[]⟩,
 fun (_:Unit)=>ZbI⟩
theorem ZbI.ev:∀d,Zbb C0 (hnd (tab [(226,Zb3.S)])) Tryz.f198 .u ZbI.S d=ZbI.S.F d:=fun _=>by kernel_rfl
theorem ZbI.sound:Zah Tryz.prog C0 198 ZbI.S:=sE Zbf ZbI.ev (Zaj ⟨Zb3.sound,trivial⟩) Tryz.func198
def ZbK.S:ZaT:=⟨0,[],[],[],⟨[.list [.int .i64],.list [.int .i64]],.agg [.sc (.list [.int .i64]),.sc (.list [.int .i64])],[]⟩,
 fun (_:Unit)=>ZbK⟩
theorem ZbK.ev:∀d,Zbb C0 (hnd (tab [(226,Zb3.S)])) Tryz.f199 .u ZbK.S d=ZbK.S.F d:=fun _=>by kernel_rfl
theorem ZbK.sound:Zah Tryz.prog C0 199 ZbK.S:=sE Zbf ZbK.ev (Zaj ⟨Zb3.sound,trivial⟩) Tryz.func199
def ZbY.S:ZaT:=⟨0,[.agg [.sc (.list [.int .i64]),.sc (.list [.int .i64])],.sc (.int .i64)],[],[.list [.int .i64],.list [.int .i64],.int .i64],⟨[.int .i64],.sc (.int .i64),[]⟩,
 fun ((first,bits,n):List Int×List Int×Int)=>ZbY first bits n⟩
theorem ZbY.ev:∀d,Zbb C0 (hnd (tab [])) Tryz.f206 (.seq .u (.seq .u (.seq (.blk (.loop ⟨[.int .i64,.int .i64,.list [.int .i64],.list [.int .i64]],[(1,.sc (.int .i64)),(2,.ptr 0 0),(5,.sc (.int .i64))],[.box [.sc (.list [.int .i64]),.sc (.list [.int .i64])]]⟩ (fun ((n1,k,o,o1):Int×Int×List Int×List Int)=>k.toNat+1) 0 ⟨[.int .i64],[(5,.sc (.int .i64))],[]⟩ .u)) .u))) ZbY.S d=ZbY.S.F d:=fun _=>by kernel_rfl
theorem ZbY.sound:Zah Tryz.prog C0 206 ZbY.S:=sE Zbf ZbY.ev (Zaj trivial) Tryz.func206
def Zbg.S:ZaT:=⟨0,[],[],[],⟨[.list [.int .i64],.list [.int .i64]],.tup [.full 0,.full 1],[.arr [.int .i64],.arr [.int .i64]]⟩,
 fun (_:Unit)=>Zbg⟩
theorem Zbg.ev:∀d,Zbb C0 (hnd (tab [])) Tryz.f172 (.seq .u (.seq .u (.seq (.seq .u (.blk (.loop ⟨[.int .i64,.int .i64,.list [.int .i64]],[(2,.full 0),(8,.sc (.int .i64)),(9,.sc (.int .i64))],[.arr [.int .i64]]⟩ (fun ((t,t1,lit):Int×Int×List Int)=>(t-t1).toNat+1) 0 ⟨[.list [.int .i64]],[(2,.full 0)],[.arr [.int .i64]]⟩ (.seq .u (.seq .u (.seq (.blk (.seq .u (.blk (.seq (.reg [.bool] [(15,.sc .bool)]) .u)))) .u)))))) (.seq .u (.seq (.seq .u (.blk (.loop ⟨[.int .i64,.int .i64,.list [.int .i64],.list [.int .i64]],[(2,.full 0),(4,.full 1),(34,.sc (.int .i64)),(35,.sc (.int .i64))],[.arr [.int .i64],.arr [.int .i64]]⟩ (fun ((t2,t3,lit2,dist):Int×Int×List Int×List Int)=>(t2-t3).toNat+1) 3 ⟨[.list [.int .i64],.list [.int .i64]],[(2,.full 0),(4,.full 1)],[.arr [.int .i64],.arr [.int .i64]]⟩ .u))) .u))))) Zbg.S d=Zbg.S.F d:=fun _=>by kernel_rfl
theorem Zbg.sound:Zah Tryz.prog C0 172 Zbg.S:=sE Zbf Zbg.ev (Zaj trivial) Tryz.func172
def Zc6.S:ZaT:=⟨0,[.sc .str],[],[.str],⟨[.str],.sc .str,[]⟩,
 fun (text:Str)=>Zc6 text⟩
theorem Zc6.ev:∀d,Zbb C0 (hnd (tab [(202,Zen.S),(203,ZiC.S)])) Tryz.f177 .u Zc6.S d=Zc6.S.F d:=fun _=>by kernel_rfl
theorem Zc6.sound:Zah Tryz.prog C0 177 Zc6.S:=sE Zbf Zc6.ev (Zaj ⟨Zen.sound,ZiC.sound,trivial⟩) Tryz.func177
def Zfx.S:ZaT:=⟨1,[.ptr 0 0,.sc (.list [.int .i64]),.sc (.list [.int .i64]),.sc (.int .i64)],[.box [.full 1,.sc (.int .i64)],.arr [.int .u8]],[.list [.int .i64],.list [.int .i64],.int .i64,.int .i64,.list [.int .u8]],⟨[.int .i64,.list [.int .u8]],.tup [],[.box [.full 1,.sc (.int .i64)],.arr [.int .u8]]⟩,
 fun ((lens,all,s,many,b):List Int×List Int×Int×Int×List Int)=>Zfx lens all s many b⟩
theorem Zfx.ev:∀d,Zbb C0 (hnd (tab [(202,Zen.S),(228,Zbr.S)])) Tryz.f210 .u Zfx.S d=Zfx.S.F d:=fun _=>by kernel_rfl
theorem Zfx.sound:Zah Tryz.prog C0 210 Zfx.S:=sE Zbf Zfx.ev (Zaj ⟨Zen.sound,Zbr.sound,trivial⟩) Tryz.func210
def Zbz.S:ZaT:=⟨1,[.ptr 0 0,.sc (.list [.int .i64,.int .i64,.int .i64]),.sc (.list [.int .i64]),.sc (.list [.int .i64])],[.box [.full 1,.sc (.int .i64)],.arr [.int .u8]],[.list [.int .i64,.int .i64,.int .i64],.list [.int .i64],.list [.int .i64],.int .i64,.list [.int .u8]],⟨[.int .i64,.list [.int .u8]],.tup [],[.box [.full 1,.sc (.int .i64)],.arr [.int .u8]]⟩,
 fun ((list,lit,dist,many,b):(List (Int×Int×Int))×List Int×List Int×Int×List Int)=>Zbz list lit dist many b⟩
theorem Zbz.ev:∀d,Zbb C0 (hnd (tab [(198,ZbI.S),(199,ZbK.S),(202,Zen.S),(206,ZbY.S),(209,Zcc.S),(210,Zfx.S)])) Tryz.f204 (.seq .u (.seq (.seq .u (.blk (.loop ⟨[.list [.int .i64],.list [.int .i64],.list [.int .i64,.int .i64,.int .i64],.int .i64,.int .i64,.int .i64,.list [.int .i64],.list [.int .i64],.list [.int .u8]],[(0,.ptr 0 0),(2,.sc (.list [.int .i64])),(3,.sc (.list [.int .i64])),(8,.full 1),(9,.full 2),(17,.sc (.list [.int .i64,.int .i64,.int .i64])),(18,.sc (.int .i64)),(19,.sc (.int .i64))],[.box [.full 3,.sc (.int .i64)],.arr [.int .i64],.arr [.int .i64],.arr [.int .u8]]⟩ (fun ((lit1,dist1,t,t1,t2,o,a,b1,o1):List Int×List Int×(List (Int×Int×Int))×Int×Int×Int×List Int×List Int×List Int)=>(t1-t2).toNat+1) 0 ⟨[.list [.int .i64],.int .i64,.list [.int .i64],.list [.int .u8]],[(0,.ptr 0 0),(2,.sc (.list [.int .i64])),(8,.full 1)],[.box [.full 2,.sc (.int .i64)],.arr [.int .i64],.arr [.int .u8]]⟩ .u))) .u)) Zbz.S d=Zbz.S.F d:=fun _=>by kernel_rfl
theorem Zbz.sound:Zah Tryz.prog C0 204 Zbz.S:=sE Zbf Zbz.ev (Zaj ⟨ZbI.sound,ZbK.sound,Zen.sound,ZbY.sound,Zcc.sound,Zfx.sound,trivial⟩) Tryz.func204
def Zdd.S:ZaT:=⟨0,[.sc .str],[],[.str],⟨[.str],.sc .str,[]⟩,
 fun (text:Str)=>Zdd text⟩
theorem Zdd.ev:∀d,Zbb C0 (hnd (tab [(172,Zbg.S),(202,Zen.S),(204,Zbz.S),(205,Zap.S)])) Tryz.f178 .u Zdd.S d=Zdd.S.F d:=fun _=>by kernel_rfl
theorem Zdd.sound:Zah Tryz.prog C0 178 Zdd.S:=sE Zbf Zdd.ev (Zaj ⟨Zbg.sound,Zen.sound,Zbz.sound,Zap.sound,trivial⟩) Tryz.func178
def Zbw.S:ZaT:=⟨0,[.sc (.list [.int .i64]),.sc (.int .i64)],[],[.list [.int .i64],.int .i64],⟨[.list [.int .i64]],.sc (.list [.int .i64]),[]⟩,
 fun ((lens,least_):List Int×Int)=>Zbw lens least_⟩
theorem Zbw.ev:∀d,Zbb C0 (hnd (tab [])) Tryz.f207 (.seq .u (.seq .u (.seq (.blk (.loop ⟨[.list [.int .i64],.int .i64,.int .i64],[(0,.sc (.list [.int .i64])),(1,.sc (.int .i64)),(5,.sc (.int .i64))],[]⟩ (fun ((lens1,least_1,n):List Int×Int×Int)=>(n-least_1).toNat+1) 0 ⟨[.list [.int .i64],.int .i64],[(0,.sc (.list [.int .i64])),(5,.sc (.int .i64))],[]⟩ (.seq (.seq (.reg [.bool] [(18,.sc .bool)]) .u) .u))) .u))) Zbw.S d=Zbw.S.F d:=fun _=>by kernel_rfl
theorem Zbw.sound:Zah Tryz.prog C0 207 Zbw.S:=sE Zbf Zbw.ev (Zaj trivial) Tryz.func207
def ZaU.S:ZaT:=⟨0,[.sc .str],[],[.str],⟨[.str],.sc .str,[]⟩,
 fun (text:Str)=>ZaU text⟩
theorem ZaU.ev:∀d,Zbb C0 (hnd (tab [(198,ZbI.S),(199,ZbK.S),(202,Zen.S),(204,Zbz.S),(205,Zap.S),(206,ZbY.S),(207,Zbw.S),(208,ZaR.S),(209,Zcc.S),(210,Zfx.S)])) Tryz.f179 (.seq .u (.seq .u (.seq .u (.seq .u (.seq .u (.seq .u (.seq (.seq .u (.blk (.loop ⟨[.bool,.int .i64,.int .i64,.list [.int .i64,.int .i64,.int .i64],.list [.int .i64],.list [.int .i64]],[(3,.full 0),(4,.full 1),(5,.full 2),(6,.sc .bool),(31,.full 0),(32,.sc (.int .i64)),(33,.sc (.int .i64))],[.arr [.int .i64,.int .i64,.int .i64],.arr [.int .i64],.arr [.int .i64]]⟩ (fun ((none_,t,t1,o,a,b):Bool×Int×Int×(List (Int×Int×Int))×List Int×List Int)=>(t-t1).toNat+1) 0 ⟨[.bool,.list [.int .i64,.int .i64,.int .i64],.list [.int .i64],.list [.int .i64]],[(3,.full 0),(4,.full 1),(5,.full 2),(6,.sc .bool)],[.arr [.int .i64,.int .i64,.int .i64],.arr [.int .i64],.arr [.int .i64]]⟩ .u))) (.join ⟨[.list [.int .i64,.int .i64,.int .i64],.list [.int .i64],.list [.int .i64]],[(3,.full 0),(4,.full 1),(5,.full 2)],[.arr [.int .i64,.int .i64,.int .i64],.arr [.int .i64],.arr [.int .i64]]⟩ .u (.seq .u (.seq .u (.seq .u (.seq (.seq .u (.blk (.loop ⟨[.list [.int .i64],.list [.int .i64],.int .i64,.int .i64,.list [.int .i64,.int .i64,.int .i64],.list [.int .i64],.list [.int .i64]],[(3,.full 0),(9,.sc (.list [.int .i64])),(10,.sc (.list [.int .i64])),(11,.full 1),(12,.full 2),(84,.full 1),(85,.sc (.int .i64)),(86,.sc (.int .i64))],[.arr [.int .i64,.int .i64,.int .i64],.arr [.int .i64],.arr [.int .i64]]⟩ (fun ((lit,dist,t2,t3,list2,o1,c):List Int×List Int×Int×Int×(List (Int×Int×Int))×List Int×List Int)=>(t2-t3).toNat+1) 2 ⟨[.list [.int .i64],.list [.int .i64],.list [.int .i64,.int .i64,.int .i64],.list [.int .i64],.list [.int .i64]],[(3,.full 0),(9,.sc (.list [.int .i64])),(10,.sc (.list [.int .i64])),(11,.full 1),(12,.full 2)],[.arr [.int .i64,.int .i64,.int .i64],.arr [.int .i64],.arr [.int .i64]]⟩ .u))) (.seq .u (.seq .u (.seq .u (.seq .u (.seq .u (.seq .u (.seq .u (.seq (.seq .u (.blk (.loop ⟨[.list [.int .i64],.list [.int .i64],.list [.int .i64],.int .i64,.int .i64,.list [.int .i64,.int .i64,.int .i64],.list [.int .i64],.list [.int .i64],.int .i64,.list [.int .u8]],[(3,.full 0),(9,.sc (.list [.int .i64])),(10,.sc (.list [.int .i64])),(11,.full 1),(15,.full 2),(16,.ptr 3 0),(120,.sc (.list [.int .i64])),(121,.sc (.int .i64)),(122,.sc (.int .i64))],[.arr [.int .i64,.int .i64,.int .i64],.arr [.int .i64],.arr [.int .i64],.box [.full 4,.sc (.int .i64)],.arr [.int .u8]]⟩ (fun ((lit2,dist2,t4,t5,t6,list4,all1,meta_,o2,o3):List Int×List Int×List Int×Int×Int×(List (Int×Int×Int))×List Int×List Int×Int×List Int)=>(t5-t6).toNat+1) 4 ⟨[.list [.int .i64],.list [.int .i64],.list [.int .i64,.int .i64,.int .i64],.list [.int .i64],.list [.int .i64],.int .i64,.list [.int .u8]],[(3,.full 0),(9,.sc (.list [.int .i64])),(10,.sc (.list [.int .i64])),(11,.full 1),(15,.full 2),(16,.ptr 3 0)],[.arr [.int .i64,.int .i64,.int .i64],.arr [.int .i64],.arr [.int .i64],.box [.full 4,.sc (.int .i64)],.arr [.int .u8]]⟩ .u))) (.seq .u (.seq (.seq .u (.blk (.loop ⟨[.list [.int .i64],.list [.int .i64],.int .i64,.int .i64,.list [.int .i64,.int .i64,.int .i64],.list [.int .i64],.int .i64,.list [.int .i64],.list [.int .i64],.list [.int .u8]],[(3,.full 0),(9,.sc (.list [.int .i64])),(10,.sc (.list [.int .i64])),(15,.full 1),(16,.ptr 2 0),(19,.full 3),(135,.full 4),(136,.sc (.int .i64)),(137,.sc (.int .i64))],[.arr [.int .i64,.int .i64,.int .i64],.arr [.int .i64],.box [.full 5,.sc (.int .i64)],.arr [.int .i64],.arr [.int .i64],.arr [.int .u8]]⟩ (fun ((lit4,dist4,t7,t8,list6,meta_2,o6,m,o7,o8):List Int×List Int×Int×Int×(List (Int×Int×Int))×List Int×Int×List Int×List Int×List Int)=>(t7-t8).toNat+1) 6 ⟨[.list [.int .i64],.list [.int .i64],.list [.int .i64,.int .i64,.int .i64],.int .i64,.list [.int .u8]],[(3,.full 0),(9,.sc (.list [.int .i64])),(10,.sc (.list [.int .i64])),(16,.ptr 1 0)],[.arr [.int .i64,.int .i64,.int .i64],.box [.full 2,.sc (.int .i64)],.arr [.int .u8]]⟩ .u))) .u)))))))))))))))))))))) ZaU.S d=ZaU.S.F d:=fun _=>by kernel_rfl
theorem ZaU.sound:Zah Tryz.prog C0 179 ZaU.S:=sE Zbf ZaU.ev (Zaj ⟨ZbI.sound,ZbK.sound,Zen.sound,Zbz.sound,Zap.sound,ZbY.sound,Zbw.sound,ZaR.sound,Zcc.sound,Zfx.sound,trivial⟩) Tryz.func179
def Za1.S:ZaT:=⟨0,[.sc .str],[],[.str],⟨[.str],.sc .str,[]⟩,
 fun (text:Str)=>Za1 text⟩
theorem Za1.ev:∀d,Zbb C0 (hnd (tab [(177,Zc6.S),(178,Zdd.S),(179,ZaU.S)])) Tryz.f133 (.seq .u (.seq .u (.seq (.seq .u (.blk (.loop ⟨[.str,.int .i64,.int .i64,.list [.str]],[(3,.sc .str),(12,.full 0),(13,.sc (.int .i64)),(14,.sc (.int .i64))],[.arr [.str]]⟩ (fun ((best,t,t1,o):Str×Int×Int×List Str)=>(t-t1).toNat+1) 0 ⟨[.str],[(3,.sc .str)],[]⟩ .u))) .u))) Za1.S d=Za1.S.F d:=fun _=>by kernel_rfl
theorem Za1.sound:Zah Tryz.prog C0 133 Za1.S:=sE Zbf Za1.ev (Zaj ⟨Zc6.sound,Zdd.sound,ZaU.sound,trivial⟩) Tryz.func133
def ZbE.S:ZaT:=⟨1,[.ptr 0 0,.full 1],[.box [.sc .str,.sc (.int .i64),.sc .bool],.arr [.int .u8]],[.str,.int .i64,.bool,.list [.int .u8]],⟨[.str,.int .i64,.bool,.list [.int .u8]],.full 1,[.box [.sc .str,.sc (.int .i64),.sc .bool],.arr [.int .u8]]⟩,
 fun ((s,at_,bad,out):Str×Int×Bool×List Int)=>ZbE s at_ bad out⟩
theorem ZbE.ev:∀d,Zbb C0 (hnd (tab [(170,Zeq.S),(175,ZdJ.S)])) Tryz.f171 (.seq .u (.seq .u (.seq .u (.join ⟨[.int .i64,.str,.int .i64,.bool,.list [.int .u8]],[(0,.ptr 0 0),(1,.full 1),(5,.sc (.int .i64))],[.box [.sc .str,.sc (.int .i64),.sc .bool],.arr [.int .u8]]⟩ .u (.seq (.seq .u (.blk (.loop ⟨[.int .i64,.int .i64,.str,.int .i64,.bool,.list [.int .u8]],[(0,.ptr 0 0),(1,.full 1),(5,.sc (.int .i64)),(7,.sc (.int .i64))],[.box [.sc .str,.sc (.int .i64),.sc .bool],.arr [.int .u8]]⟩ (fun ((n1,k,o3,o4,o5,out2):Int×Int×Str×Int×Bool×List Int)=>(n1-k).toNat+1) 0 ⟨[.str,.int .i64,.bool,.list [.int .u8]],[(1,.full 1)],[.box [.sc .str,.sc (.int .i64),.sc .bool],.arr [.int .u8]]⟩ (.seq (.seq (.reg [.bool] [(35,.sc .bool)]) .u) .u)))) .u))))) ZbE.S d=ZbE.S.F d:=fun _=>by kernel_rfl
theorem ZbE.sound:Zah Tryz.prog C0 171 ZbE.S:=sE Zbf ZbE.ev (Zaj ⟨Zeq.sound,ZdJ.sound,trivial⟩) Tryz.func171
def Zaq.S:ZaT:=⟨1,[.ptr 0 0],[.box [.sc .str,.sc (.int .i64),.sc .bool]],[.str,.int .i64,.bool],⟨[.list [.int .i64],.list [.int .i64],.str,.int .i64,.bool],.tup [.sc (.list [.int .i64]),.sc (.list [.int .i64])],[.box [.sc .str,.sc (.int .i64),.sc .bool]]⟩,
 fun ((s,at_,bad):Str×Int×Bool)=>Zaq s at_ bad⟩
theorem Zaq.ev:∀d,Zbb C0 (hnd (tab [(170,Zeq.S),(195,ZbQ.S),(196,ZbS.S),(197,Zbd.S)])) Tryz.f174 (.seq .u (.seq .u (.join ⟨[.int .i64,.int .i64,.int .i64,.str,.int .i64,.bool],[(0,.ptr 0 0),(4,.sc (.int .i64)),(5,.sc (.int .i64)),(6,.sc (.int .i64))],[.box [.sc .str,.sc (.int .i64),.sc .bool]]⟩ (.seq (.reg [.bool] [(29,.sc .bool)]) .u) (.seq .u (.seq (.seq .u (.blk (.loop ⟨[.int .i64,.int .i64,.list [.int .i64],.int .i64,.int .i64,.str,.int .i64,.bool,.list [.int .i64]],[(0,.ptr 0 0),(4,.sc (.int .i64)),(5,.sc (.int .i64)),(7,.full 1),(38,.sc (.list [.int .i64])),(39,.sc (.int .i64)),(40,.sc (.int .i64))],[.box [.sc .str,.sc (.int .i64),.sc .bool],.arr [.int .i64]]⟩ (fun ((lit1,dist1,t,t1,t2,o3,o4,o5,meta_):Int×Int×List Int×Int×Int×Str×Int×Bool×List Int)=>(t1-t2).toNat+1) 0 ⟨[.int .i64,.int .i64,.str,.int .i64,.bool,.list [.int .i64]],[(0,.ptr 0 0),(4,.sc (.int .i64)),(5,.sc (.int .i64)),(7,.full 1)],[.box [.sc .str,.sc (.int .i64),.sc .bool],.arr [.int .i64]]⟩ .u))) (.seq (.seq (.reg [.bool] [(58,.sc .bool)]) .u) (.seq .u (.seq .u (.seq (.blk (.loop ⟨[.int .i64,.int .i64,.str,.int .i64,.bool,.map [.int .i64,.int .i64] [.int .i64],.list [.int .i64]],[(0,.ptr 0 0),(4,.sc (.int .i64)),(5,.sc (.int .i64)),(10,.map 1),(11,.full 2)],[.box [.sc .str,.sc (.int .i64),.sc .bool],.map [.int .i64,.int .i64] [.int .i64],.arr [.int .i64]]⟩ (fun ((lit3,dist3,o9,o10,o11,o12,all):Int×Int×Str×Int×Bool×(List ((Int×Int)×Int))×List Int)=>((w64 (lit3+dist3))-(all.length:Int)).toNat+1) 2 ⟨[.int .i64,.int .i64,.str,.int .i64,.bool,.list [.int .i64]],[(0,.ptr 0 0),(4,.sc (.int .i64)),(5,.sc (.int .i64)),(11,.full 1)],[.box [.sc .str,.sc (.int .i64),.sc .bool],.arr [.int .i64]]⟩ (.seq (.seq (.reg [.bool] [(77,.sc .bool)]) .u) (.blk (.seq .u (.seq .u (.join ⟨[.int .i64,.int .i64,.int .i64,.int .i64,.str,.int .i64,.bool,.map [.int .i64,.int .i64] [.int .i64],.list [.int .i64]],[(0,.ptr 0 0),(4,.sc (.int .i64)),(5,.sc (.int .i64)),(10,.map 1),(11,.full 2),(13,.sc (.int .i64)),(14,.sc (.int .i64))],[.box [.sc .str,.sc (.int .i64),.sc .bool],.map [.int .i64,.int .i64] [.int .i64],.arr [.int .i64]]⟩ .u (.seq .u (.blk (.loop ⟨[.int .i64,.int .i64,.int .i64,.int .i64,.int .i64,.str,.int .i64,.bool,.map [.int .i64,.int .i64] [.int .i64],.list [.int .i64]],[(0,.ptr 0 0),(4,.sc (.int .i64)),(5,.sc (.int .i64)),(10,.map 1),(11,.full 2),(13,.sc (.int .i64)),(112,.sc (.int .i64)),(113,.sc (.int .i64))],[.box [.sc .str,.sc (.int .i64),.sc .bool],.map [.int .i64,.int .i64] [.int .i64],.arr [.int .i64]]⟩ (fun ((lit5,dist5,again_1,t3,t4,o17,o18,o19,o20,all2):Int×Int×Int×Int×Int×Str×Int×Bool×(List ((Int×Int)×Int))×List Int)=>(t3-t4).toNat+1) 5 ⟨[.int .i64,.int .i64,.str,.int .i64,.bool,.map [.int .i64,.int .i64] [.int .i64],.list [.int .i64]],[(0,.ptr 0 0),(4,.sc (.int .i64)),(5,.sc (.int .i64)),(10,.map 1),(11,.full 2)],[.box [.sc .str,.sc (.int .i64),.sc .bool],.map [.int .i64,.int .i64] [.int .i64],.arr [.int .i64]]⟩ .u)))))))))) (.seq (.seq (.reg [.bool] [(131,.sc .bool)]) .u) .u)))))))))) Zaq.S d=Zaq.S.F d:=fun _=>by kernel_rfl
theorem Zaq.sound:Zah Tryz.prog C0 174 Zaq.S:=sE Zbf Zaq.ev (Zaj ⟨Zeq.sound,ZbQ.sound,ZbS.sound,Zbd.sound,trivial⟩) Tryz.func174
def ZbW.S:ZaT:=⟨1,[.ptr 0 0,.full 1,.sc (.list [.int .i64]),.sc (.list [.int .i64])],[.box [.sc .str,.sc (.int .i64),.sc .bool],.arr [.int .u8]],[.list [.int .i64],.list [.int .i64],.str,.int .i64,.bool,.list [.int .u8]],⟨[.str,.int .i64,.bool,.list [.int .u8]],.full 1,[.box [.sc .str,.sc (.int .i64),.sc .bool],.arr [.int .u8]]⟩,
 fun ((lit,dist,s,at_,bad,out):List Int×List Int×Str×Int×Bool×List Int)=>ZbW lit dist s at_ bad out⟩
theorem ZbW.ev:∀d,Zbb C0 (hnd (tab [(170,Zeq.S),(195,ZbQ.S),(196,ZbS.S),(197,Zbd.S),(198,ZbI.S),(199,ZbK.S),(200,add.S)])) Tryz.f173 (.seq .u (.seq (.seq (.reg [.bool] [(29,.sc .bool)]) .u) (.seq .u (.seq (.blk (.loopS ⟨[.str,.int .i64,.bool,.list [.int .u8],.map [.int .i64,.int .i64] [.int .i64],.map [.int .i64,.int .i64] [.int .i64]],[(0,.ptr 0 0),(1,.full 1),(9,.map 2),(10,.map 3)],[.box [.sc .str,.sc (.int .i64),.sc .bool],.arr [.int .u8],.map [.int .i64,.int .i64] [.int .i64],.map [.int .i64,.int .i64] [.int .i64]]⟩ (fun ((o,o1,o2,out1,o3,o4):Str×Int×Bool×List Int×(List ((Int×Int)×Int))×List ((Int×Int)×Int))=>100000) 0 ⟨[.str,.int .i64,.bool,.list [.int .u8]],[(1,.full 1)],[.box [.sc .str,.sc (.int .i64),.sc .bool],.arr [.int .u8]]⟩ (.seq (.seq (.reg [.bool] [(47,.sc .bool)]) .u) (.blk (.seq .u (.seq (.blk (.seq (.reg [.bool] [(51,.sc .bool)]) .u)) (.seq (.cm [(1,[0]),(2,[0]),(3,[0]),(4,[0]),(5,[0])]) (.seq .u (.seq .u (.seq (.cm [(1,[0]),(2,[0]),(3,[0]),(4,[0])]) (.seq .u (.seq (.seq (.reg [.bool] [(129,.sc .bool)]) .u) .u)))))))))))) .u)))) ZbW.S d=ZbW.S.F d:=fun _=>by kernel_rfl
theorem ZbW.sound:Zah Tryz.prog C0 173 ZbW.S:=sE Zbf ZbW.ev (Zaj ⟨Zeq.sound,ZbQ.sound,ZbS.sound,Zbd.sound,ZbI.sound,ZbK.sound,add.sound,trivial⟩) Tryz.func173
end Ev
end
section
open Go Go.Proofs
set_option maxRecDepth 100000
namespace Ev
set_option maxHeartbeats 1000000
def ZaY.S:ZaT:=⟨1,[.ptr 0 0,.full 1,.sc (.list [.int .i64]),.sc (.list [.int .i64])],[.box [.sc .str,.sc (.int .i64),.sc .bool],.arr [.int .u8]],[.list [.int .i64],.list [.int .i64],.str,.int .i64,.bool,.list [.int .u8]],⟨[.str,.int .i64,.bool],.undef,[.box [.sc .str,.sc (.int .i64),.sc .bool]]⟩,
 fun ((lit,dist,s,at_,bad,out):List Int×List Int×Str×Int×Bool×List Int)=>ZaY lit dist s at_ bad out⟩
theorem ZaY.ev:∀d,Zbb C0 (hnd (tab [(170,Zeq.S),(195,ZbQ.S),(196,ZbS.S),(197,Zbd.S),(198,ZbI.S),(199,ZbK.S),(200,add.S)])) Tryz.f173 (.seq .u (.seq (.seq (.reg [.bool] [(29,.sc .bool)]) .u) (.seq .u (.seq (.blk (.loopS ⟨[.str,.int .i64,.bool,.list [.int .u8],.map [.int .i64,.int .i64] [.int .i64],.map [.int .i64,.int .i64] [.int .i64]],[(0,.ptr 0 0),(1,.full 1),(9,.map 2),(10,.map 3)],[.box [.sc .str,.sc (.int .i64),.sc .bool],.arr [.int .u8],.map [.int .i64,.int .i64] [.int .i64],.map [.int .i64,.int .i64] [.int .i64]]⟩ (fun ((o,o1,o2,out1,o3,o4):Str×Int×Bool×List Int×(List ((Int×Int)×Int))×List ((Int×Int)×Int))=>100000) 0 ⟨[.str,.int .i64,.bool,.list [.int .u8]],[(1,.full 1)],[.box [.sc .str,.sc (.int .i64),.sc .bool],.arr [.int .u8]]⟩ (.seq (.seq (.reg [.bool] [(47,.sc .bool)]) .u) (.blk (.seq .u (.seq (.blk (.seq (.reg [.bool] [(51,.sc .bool)]) .u)) (.seq (.cm [(1,[0]),(2,[0]),(3,[0]),(4,[0]),(5,[0])]) (.seq .u (.seq .u (.seq (.cm [(1,[0]),(2,[0]),(3,[0]),(4,[0])]) (.seq .u (.seq (.seq (.reg [.bool] [(129,.sc .bool)]) .u) .u)))))))))))) .u)))) ZaY.S d=ZaY.S.F d:=fun _=>by kernel_rfl
theorem ZaY.sound:Zah Tryz.prog C0 173 ZaY.S:=sE Zbf ZaY.ev (Zaj ⟨Zeq.sound,ZbQ.sound,ZbS.sound,Zbd.sound,ZbI.sound,ZbK.sound,add.sound,trivial⟩) Tryz.func173
def Zbh.S:ZaT:=⟨0,[.sc .str],[],[.str],⟨[.str,.int .i64,.bool],.tup [.sc .str,.sc (.int .i64),.sc .bool],[]⟩,
 fun (text:Str)=>Zbh text⟩
theorem Zbh.ev:∀d,Zbb C0 (hnd (tab [(169,ZhB.S),(170,Zeq.S),(171,ZbE.S),(172,Zbg.S),(173,ZbW.S),(173,ZaY.S),(174,Zaq.S),(175,ZdJ.S)])) Tryz.f130 (.seq .u (.seq .u (.seq .u (.seq .u (.seq (.seq .u (.blk (.loopS ⟨[.bool,.str,.int .i64,.bool,.list [.int .u8]],[(5,.ptr 0 0),(6,.full 1),(7,.sc .bool)],[.box [.sc .str,.sc (.int .i64),.sc .bool],.arr [.int .u8]]⟩ (fun ((last,o,o1,o2,out):Bool×Str×Int×Bool×List Int)=>100000) 0 ⟨[.str,.int .i64,.bool,.list [.int .u8]],[(5,.ptr 0 0),(6,.full 1)],[.box [.sc .str,.sc (.int .i64),.sc .bool],.arr [.int .u8]]⟩ .u))) .u))))) Zbh.S d=Zbh.S.F d:=fun _=>by kernel_rfl
theorem Zbh.sound:Zah Tryz.prog C0 130 Zbh.S:=sE Zbf Zbh.ev (Zaj ⟨ZhB.sound,Zeq.sound,ZbE.sound,Zbg.sound,ZbW.sound,ZaY.sound,Zaq.sound,ZdJ.sound,trivial⟩) Tryz.func130
def Zm8.S:ZaT:=⟨0,[.sc (.int .i64),.sc (.int .i64)],[],[.int .i64,.int .i64],⟨[.int .i64],.sc (.int .i64),[]⟩,
 fun ((year,month):Int×Int)=>Zm8 year month⟩
theorem Zm8.ev:∀d,Zbb C0 (hnd (tab [])) Tryz.f147 (.seq .u (.seq (.seq .u (.blk (.join ⟨[.int .i64,.int .i64,.bool],[(0,.sc (.int .i64)),(5,.sc (.int .i64)),(6,.sc .bool)],[]⟩ .u (.cond .u (.seq .u (.cond (.seq (.seq (.reg [.bool] [(25,.sc .bool)]) .u) .u) .u)))))) .u)) Zm8.S d=Zm8.S.F d:=fun _=>by kernel_rfl
theorem Zm8.sound:Zah Tryz.prog C0 147 Zm8.S:=sE Zbf Zm8.ev (Zaj trivial) Tryz.func147
def Zc2.S:ZaT:=⟨0,[.agg [.sc (.int .i64),.sc (.int .i64),.sc (.int .i64),.sc (.int .i64),.sc (.int .i64),.sc (.int .i64)]],[],[.int .i64,.int .i64,.int .i64,.int .i64,.int .i64,.int .i64],⟨[.bool],.sc .bool,[]⟩,
 fun ((y,mo,d,h,mi,sec):Int×Int×Int×Int×Int×Int)=>Zc2 y mo d h mi sec⟩
theorem Zc2.ev:∀d,Zbb C0 (hnd (tab [(146,Zbn.S),(147,Zm8.S)])) Tryz.f104 (.seq .u (.seq (.reg [.bool] [(2,.sc .bool)]) .u)) Zc2.S d=Zc2.S.F d:=fun _=>by kernel_rfl
theorem Zc2.sound:Zah Tryz.prog C0 104 Zc2.S:=sE Zbf Zc2.ev (Zaj ⟨Zbn.sound,Zm8.sound,trivial⟩) Tryz.func104
def Zb1.S:ZaT:=⟨0,[.agg [.sc (.int .i64),.sc (.int .i64),.sc (.int .i64),.sc (.int .i64),.sc (.int .i64),.sc (.int .i64)]],[],[.int .i64,.int .i64,.int .i64,.int .i64,.int .i64,.int .i64],⟨[.int .i64],.sc (.int .i64),[]⟩,
 fun ((y,mo,d,h,mi,sec):Int×Int×Int×Int×Int×Int)=>Zb1 y mo d h mi sec⟩
theorem Zb1.ev:∀d,Zbb C0 (hnd (tab [(104,Zc2.S)])) Tryz.f168 .u Zb1.S d=Zb1.S.F d:=fun _=>by kernel_rfl
theorem Zb1.sound:Zah Tryz.prog C0 168 Zb1.S:=sE Zbf Zb1.ev (Zaj ⟨Zc2.sound,trivial⟩) Tryz.func168
def Zc7.S:ZaT:=⟨0,[.sc (.int .i64)],[],[.int .i64],⟨[.int .i64,.int .i64,.int .i64,.int .i64,.int .i64,.int .i64,.bool],.tup [.agg [.sc (.int .i64),.sc (.int .i64),.sc (.int .i64),.sc (.int .i64),.sc (.int .i64),.sc (.int .i64)],.sc .bool],[]⟩,
 fun (n:Int)=>Zc7 n⟩
theorem Zc7.ev:∀d,Zbb C0 (hnd (tab [(168,Zb1.S)])) Tryz.f129 .u Zc7.S d=Zc7.S.F d:=fun _=>by kernel_rfl
theorem Zc7.sound:Zah Tryz.prog C0 129 Zc7.S:=sE Zbf Zc7.ev (Zaj ⟨Zb1.sound,trivial⟩) Tryz.func129
def Zb5.S:ZaT:=⟨0,[.agg [.sc .str,.sc (.int .i64),.sc (.int .i64),.sc (.int .i64),.sc (.int .i64),.sc (.int .i64),.sc (.int .i64),.sc .str]],[],[.str,.int .i64,.int .i64,.int .i64,.int .i64,.int .i64,.int .i64,.str],⟨[.bool],.sc .bool,[]⟩,
 fun ((name,y,mo,d,h,mi,sec,text):Str×Int×Int×Int×Int×Int×Int×Str)=>Zb5 name y mo d h mi sec text⟩
theorem Zb5.ev:∀d,Zbb C0 (hnd (tab [(91,ZaW.S),(104,Zc2.S)])) Tryz.f99 (.seq .u (.seq (.reg [.bool] [(2,.sc .bool)]) .u)) Zb5.S d=Zb5.S.F d:=fun _=>by kernel_rfl
theorem Zb5.sound:Zah Tryz.prog C0 99 Zb5.S:=sE Zbf Zb5.ev (Zaj ⟨ZaW.sound,Zc2.sound,trivial⟩) Tryz.func99
def Zbp.S:ZaT:=⟨0,[.sc (.int .i64),.sc (.int .i64)],[],[.int .i64,.int .i64],⟨[.str],.sc .str,[]⟩,
 fun ((n,bytes):Int×Int)=>Zbp n bytes⟩
theorem Zbp.ev:∀d,Zbb C0 (hnd (tab [])) Tryz.f132 (.seq .u (.seq .u (.seq (.seq .u (.blk (.loop ⟨[.int .i64,.int .i64,.int .i64,.list [.int .u8]],[(0,.sc (.int .i64)),(5,.full 0),(7,.sc (.int .i64)),(8,.sc (.int .i64))],[.arr [.int .u8]]⟩ (fun ((n1,t,t1,out):Int×Int×Int×List Int)=>(t-t1).toNat+1) 0 ⟨[.list [.int .u8]],[(5,.full 0)],[.arr [.int .u8]]⟩ .u))) .u))) Zbp.S d=Zbp.S.F d:=fun _=>by kernel_rfl
theorem Zbp.sound:Zah Tryz.prog C0 132 Zbp.S:=sE Zbf Zbp.ev (Zaj trivial) Tryz.func132
def Za3.S:ZaT:=⟨0,[.sc .str,.sc (.int .i64),.sc (.int .i64)],[],[.str,.int .i64,.int .i64],⟨[.int .i64],.sc (.int .i64),[]⟩,
 fun ((s,at_,bytes):Str×Int×Int)=>Za3 s at_ bytes⟩
theorem Za3.ev:∀d,Zbb C0 (hnd (tab [])) Tryz.f128 (.seq .u (.seq .u (.seq (.seq .u (.blk (.loop ⟨[.str,.int .i64,.int .i64,.int .i64],[(0,.sc .str),(1,.sc (.int .i64)),(7,.sc (.int .i64)),(8,.sc (.int .i64))],[]⟩ (fun ((s1,at_1,n,k):Str×Int×Int×Int)=>(k-0).toNat+2) 0 ⟨[.int .i64],[(7,.sc (.int .i64))],[]⟩ .u))) .u))) Za3.S d=Za3.S.F d:=fun _=>by kernel_rfl
theorem Za3.sound:Zah Tryz.prog C0 128 Za3.S:=sE Zbf Za3.ev (Zaj trivial) Tryz.func128
def Zdy.S:ZaT:=⟨0,[.agg [.sc .str,.sc (.int .i64),.sc (.int .i64),.sc (.int .i64),.sc (.int .i64),.sc (.int .i64),.sc (.int .i64),.sc .str],.sc (.int .i64),.sc (.int .i64)],[],[.str,.int .i64,.int .i64,.int .i64,.int .i64,.int .i64,.int .i64,.str,.int .i64,.int .i64],⟨[.str],.sc .str,[]⟩,
 fun ((name,y,mo,d,h,mi,sec,text,method,packed):Str×Int×Int×Int×Int×Int×Int×Str×Int×Int)=>Zdy name y mo d h mi sec text method packed⟩
theorem Zdy.ev:∀d,Zbb C0 (hnd (tab [(132,Zbp.S),(168,Zb1.S),(176,crc.S)])) Tryz.f131 .u Zdy.S d=Zdy.S.F d:=fun _=>by kernel_rfl
theorem Zdy.sound:Zah Tryz.prog C0 131 Zdy.S:=sE Zbf Zdy.ev (Zaj ⟨Zbp.sound,Zb1.sound,crc.sound,trivial⟩) Tryz.func131
def Zc9.S:ZaT:=⟨0,[.agg [.sc .str,.sc (.int .i64),.sc (.int .i64),.sc (.int .i64),.sc (.int .i64),.sc (.int .i64),.sc (.int .i64),.sc .str]],[],[.str,.int .i64,.int .i64,.int .i64,.int .i64,.int .i64,.int .i64,.str],⟨[.str],.sc .str,[]⟩,
 fun ((name,y,mo,d,h,mi,sec,text):Str×Int×Int×Int×Int×Int×Int×Str)=>Zc9 name y mo d h mi sec text⟩
theorem Zc9.ev:∀d,Zbb C0 (hnd (tab [(99,Zb5.S),(131,Zdy.S),(133,Za1.S)])) Tryz.f80 .u Zc9.S d=Zc9.S.F d:=fun _=>by kernel_rfl
theorem Zc9.sound:Zah Tryz.prog C0 80 Zc9.S:=sE Zbf Zc9.ev (Zaj ⟨Zb5.sound,Zdy.sound,Za1.sound,trivial⟩) Tryz.func80
def Zda.S:ZaT:=⟨0,[.sc .str],[],[.str],⟨[.str,.int .i64,.int .i64,.int .i64,.int .i64,.int .i64,.int .i64,.str,.int .i64,.bool],.tup [.agg [.sc .str,.sc (.int .i64),.sc (.int .i64),.sc (.int .i64),.sc (.int .i64),.sc (.int .i64),.sc (.int .i64),.sc .str],.sc (.int .i64),.sc .bool],[]⟩,
 fun (text:Str)=>Zda text⟩
theorem Zda.ev:∀d,Zbb C0 (hnd (tab [(99,Zb5.S),(128,Za3.S),(129,Zc7.S),(130,Zbh.S),(131,Zdy.S)])) Tryz.f76 (.seq .u (.seq .u (.seq .u (.seq .u (.seq (.seq (.reg [.bool] [(36,.sc .bool)]) .u) (.seq .u (.seq .u (.joinS ⟨[.str,.int .i64,.int .i64,.int .i64,.str,.int .i64,.int .i64,.int .i64,.int .i64,.int .i64,.int .i64,.str,.str,.int .i64,.int .i64,.int .i64,.int .i64,.int .i64,.int .i64,.str],[(0,.sc .str),(2,.ptr 0 0),(5,.sc (.int .i64)),(6,.sc (.int .i64)),(7,.sc (.int .i64)),(9,.ptr 1 0)],[.box [.sc .str,.sc (.int .i64),.sc (.int .i64),.sc (.int .i64),.sc (.int .i64),.sc (.int .i64),.sc (.int .i64),.sc .str],.box [.sc .str,.sc (.int .i64),.sc (.int .i64),.sc (.int .i64),.sc (.int .i64),.sc (.int .i64),.sc (.int .i64),.sc .str]]⟩ (.seq .u (.blk (.seq .u (.cond .u (.seq .u (.cond (.seq .u (.seq (.seq (.reg [.bool] [(74,.sc .bool)]) .u) .u)) .u)))))) (.seq (.seq (.reg [.bool] [(89,.sc .bool)]) .u) .u))))))))) Zda.S d=Zda.S.F d:=fun _=>by kernel_rfl
theorem Zda.sound:Zah Tryz.prog C0 76 Zda.S:=sE Zbf Zda.ev (Zaj ⟨Zb5.sound,Za3.sound,Zc7.sound,Zbh.sound,Zdy.sound,trivial⟩) Tryz.func76
def joinS.S:ZaT:=ZrV
theorem joinS.sound:Zah Tryz.prog C0 81 joinS.S:=Zs4 Tryz.lays156 Tryz.Builder_Extra_156 Tryz.func81 (by kernel_rfl) (by kernel_rfl)
def ZbT.S:ZaT:=⟨0,[.sc (.list [.str,.int .i64,.int .i64,.int .i64,.int .i64,.int .i64,.int .i64,.str])],[],[.list [.str,.int .i64,.int .i64,.int .i64,.int .i64,.int .i64,.int .i64,.str]],⟨[.list [.str]],.full 0,[.arr [.str]]⟩,
 fun (list:List (Str×Int×Int×Int×Int×Int×Int×Str))=>ZbT list⟩
theorem ZbT.ev:∀d,Zbb C0 (hnd (tab [])) Tryz.f93 (.seq .u (.seq .u (.seq (.seq .u (.blk (.loop ⟨[.list [.str,.int .i64,.int .i64,.int .i64,.int .i64,.int .i64,.int .i64,.str],.int .i64,.int .i64,.list [.str]],[(3,.full 0),(7,.sc (.list [.str,.int .i64,.int .i64,.int .i64,.int .i64,.int .i64,.int .i64,.str])),(8,.sc (.int .i64)),(9,.sc (.int .i64))],[.arr [.str]]⟩ (fun ((t,t1,t2,out):(List (Str×Int×Int×Int×Int×Int×Int×Str))×Int×Int×List Str)=>(t1-t2).toNat+1) 0 ⟨[.list [.str]],[(3,.full 0)],[.arr [.str]]⟩ .u))) .u))) ZbT.S d=ZbT.S.F d:=fun _=>by kernel_rfl
theorem ZbT.sound:Zah Tryz.prog C0 93 ZbT.S:=sE Zbf ZbT.ev (Zaj trivial) Tryz.func93
def Zde.S:ZaT:=⟨0,[.sc (.list [.str,.int .i64,.int .i64,.int .i64,.int .i64,.int .i64,.int .i64,.str])],[],[.list [.str,.int .i64,.int .i64,.int .i64,.int .i64,.int .i64,.int .i64,.str]],⟨[.bool],.sc .bool,[]⟩,
 fun (list:List (Str×Int×Int×Int×Int×Int×Int×Str))=>Zde list⟩
theorem Zde.ev:∀d,Zbb C0 (hnd (tab [(92,ZcO.S),(93,ZbT.S),(99,Zb5.S)])) Tryz.f77 (.seq .u (.seq (.seq .u (.blk (.loopS ⟨[.list [.str,.int .i64,.int .i64,.int .i64,.int .i64,.int .i64,.int .i64,.str],.list [.str,.int .i64,.int .i64,.int .i64,.int .i64,.int .i64,.int .i64,.str],.int .i64,.int .i64],[(0,.sc (.list [.str,.int .i64,.int .i64,.int .i64,.int .i64,.int .i64,.int .i64,.str])),(5,.sc (.list [.str,.int .i64,.int .i64,.int .i64,.int .i64,.int .i64,.int .i64,.str])),(6,.sc (.int .i64)),(7,.sc (.int .i64))],[]⟩ (fun ((list1,t,t1,t2):(List (Str×Int×Int×Int×Int×Int×Int×Str))×(List (Str×Int×Int×Int×Int×Int×Int×Str))×Int×Int)=>(t1-t2).toNat+1) 0 ⟨[.list [.str,.int .i64,.int .i64,.int .i64,.int .i64,.int .i64,.int .i64,.str]],[(0,.sc (.list [.str,.int .i64,.int .i64,.int .i64,.int .i64,.int .i64,.int .i64,.str]))],[]⟩ .u))) .u)) Zde.S d=Zde.S.F d:=fun _=>by kernel_rfl
theorem Zde.sound:Zah Tryz.prog C0 77 Zde.S:=sE Zbf Zde.ev (Zaj ⟨ZcO.sound,ZbT.sound,Zb5.sound,trivial⟩) Tryz.func77
def Zbx.S:ZaT:=⟨0,[.sc (.list [.str])],[],[.list [.str]],⟨[.str],.sc .str,[]⟩,
 fun (locals:List Str)=>Zbx locals⟩
theorem Zbx.ev:∀d,Zbb C0 (hnd (tab [(128,Za3.S),(132,Zbp.S)])) Tryz.f78 (.seq .u (.seq .u (.seq .u (.seq (.seq .u (.blk (.loop ⟨[.list [.str],.str,.int .i64,.list [.str],.int .i64,.int .i64],[(0,.sc (.list [.str])),(3,.sc .str),(4,.sc (.int .i64)),(9,.sc (.list [.str])),(10,.sc (.int .i64)),(11,.sc (.int .i64))],[]⟩ (fun ((locals1,heads,at_,t,t1,t2):List Str×Str×Int×List Str×Int×Int)=>(t1-t2).toNat+1) 0 ⟨[.list [.str],.str,.int .i64],[(0,.sc (.list [.str])),(3,.sc .str),(4,.sc (.int .i64))],[]⟩ .u))) .u)))) Zbx.S d=Zbx.S.F d:=fun _=>by kernel_rfl
theorem Zbx.sound:Zah Tryz.prog C0 78 Zbx.S:=sE Zbf Zbx.ev (Zaj ⟨Za3.sound,Zbp.sound,trivial⟩) Tryz.func78
def ZcF.S:ZaT:=⟨0,[.sc (.list [.str,.int .i64,.int .i64,.int .i64,.int .i64,.int .i64,.int .i64,.str])],[],[.list [.str,.int .i64,.int .i64,.int .i64,.int .i64,.int .i64,.int .i64,.str]],⟨[.str],.sc .str,[]⟩,
 fun (list:List (Str×Int×Int×Int×Int×Int×Int×Str))=>ZcF list⟩
theorem ZcF.ev:∀d,Zbb C0 (hnd (tab [(77,Zde.S),(78,Zbx.S),(80,Zc9.S),(81,joinS.S)])) Tryz.f27 (.seq .u (.seq .u (.seq .u (.seq (.seq .u (.blk (.loop ⟨[.list [.str,.int .i64,.int .i64,.int .i64,.int .i64,.int .i64,.int .i64,.str],.int .i64,.int .i64,.list [.str]],[(3,.full 0),(10,.sc (.list [.str,.int .i64,.int .i64,.int .i64,.int .i64,.int .i64,.int .i64,.str])),(11,.sc (.int .i64)),(12,.sc (.int .i64))],[.arr [.str]]⟩ (fun ((t,t1,t2,locals):(List (Str×Int×Int×Int×Int×Int×Int×Str))×Int×Int×List Str)=>(t1-t2).toNat+1) 0 ⟨[.list [.str]],[(3,.full 0)],[.arr [.str]]⟩ .u))) .u)))) ZcF.S d=ZcF.S.F d:=fun _=>by kernel_rfl
theorem ZcF.sound:Zah Tryz.prog C0 27 ZcF.S:=sE Zbf ZcF.ev (Zaj ⟨Zde.sound,Zbx.sound,Zc9.sound,joinS.sound,trivial⟩) Tryz.func27
def ZcG.S:ZaT:=⟨0,[.sc .str],[],[.str],⟨[.bool,.list [.str,.int .i64,.int .i64,.int .i64,.int .i64,.int .i64,.int .i64,.str]],.tup [.full 0,.sc .bool],[.arr [.str,.int .i64,.int .i64,.int .i64,.int .i64,.int .i64,.int .i64,.str]]⟩,
 fun (text:Str)=>ZcG text⟩
theorem ZcG.ev:∀d,Zbb C0 (hnd (tab [(76,Zda.S),(77,Zde.S),(78,Zbx.S)])) Tryz.f25 (.seq .u (.seq .u (.seq .u (.seq .u (.seq (.blk (.loop ⟨[.str,.list [.str,.int .i64,.int .i64,.int .i64,.int .i64,.int .i64,.int .i64,.str],.list [.str]],[(4,.full 0),(5,.full 1),(6,.sc .str)],[.arr [.str,.int .i64,.int .i64,.int .i64,.int .i64,.int .i64,.int .i64,.str],.arr [.str]]⟩ (fun ((rest,out,locals):Str×(List (Str×Int×Int×Int×Int×Int×Int×Str))×List Str)=>(6-(out.length:Int)).toNat+1) 0 ⟨[.str,.list [.str,.int .i64,.int .i64,.int .i64,.int .i64,.int .i64,.int .i64,.str],.list [.str]],[(4,.full 0),(5,.full 1),(6,.sc .str)],[.arr [.str,.int .i64,.int .i64,.int .i64,.int .i64,.int .i64,.int .i64,.str],.arr [.str]]⟩ .u)) (.seq (.seq (.reg [.bool] [(45,.sc .bool)]) .u) .u)))))) ZcG.S d=ZcG.S.F d:=fun _=>by kernel_rfl
theorem ZcG.sound:Zah Tryz.prog C0 25 ZcG.S:=sE Zbf ZcG.ev (Zaj ⟨Zda.sound,Zde.sound,Zbx.sound,trivial⟩) Tryz.func25
def itoa.S:ZaT:=ZrW
theorem itoa.sound:Zah Tryz.prog C0 111 itoa.S:=Zs5 Tryz.laysM171 (g:=2) (by kernel_rfl) (by kernel_rfl) Tryz.func111 (by kernel_rfl) (by kernel_rfl)
def Zc5.S:ZaT:=⟨0,[.sc .str],[],[.str],⟨[.bool],.sc .bool,[]⟩,
 fun (text:Str)=>Zc5 text⟩
theorem Zc5.ev:∀d,Zbb C0 (hnd (tab [(25,ZcG.S)])) Tryz.f110 .u Zc5.S d=Zc5.S.F d:=fun _=>by kernel_rfl
theorem Zc5.sound:Zah Tryz.prog C0 110 Zc5.S:=sE Zbf Zc5.ev (Zaj ⟨ZcG.sound,trivial⟩) Tryz.func110
def Zd5.S:ZaT:=⟨0,[.agg [.sc .str,.sc .str]],[],[.str,.str],⟨[.bool],.sc .bool,[]⟩,
 fun ((text,log):Str×Str)=>Zd5 text log⟩
theorem Zd5.ev:∀d,Zbb C0 (hnd (tab [(110,Zc5.S)])) Tryz.f56 (.seq .u (.seq (.reg [.bool] [(2,.sc .bool)]) .u)) Zd5.S d=Zd5.S.F d:=fun _=>by kernel_rfl
theorem Zd5.sound:Zah Tryz.prog C0 56 Zd5.S:=sE Zbf Zd5.ev (Zaj ⟨Zc5.sound,trivial⟩) Tryz.func56
def ZdD.S:ZaT:=⟨0,[.sc (.list [.str,.int .i64,.int .i64,.int .i64,.int .i64,.int .i64,.int .i64,.str])],[],[.list [.str,.int .i64,.int .i64,.int .i64,.int .i64,.int .i64,.int .i64,.str]],⟨[.str,.str,.bool],.tup [.agg [.sc .str,.sc .str],.sc .bool],[]⟩,
 fun (list:List (Str×Int×Int×Int×Int×Int×Int×Str))=>ZdD list⟩
theorem ZdD.ev:∀d,Zbb C0 (hnd (tab [(27,ZcF.S),(77,Zde.S)])) Tryz.f53 .u ZdD.S d=ZdD.S.F d:=fun _=>by kernel_rfl
theorem ZdD.sound:Zah Tryz.prog C0 53 ZdD.S:=sE Zbf ZdD.ev (Zaj ⟨ZcF.sound,Zde.sound,trivial⟩) Tryz.func53
def ZcX.S:ZaT:=⟨0,[.agg [.sc .str,.sc .str],.sc .str,.sc (.int .i64)],[],[.str,.str,.str,.int .i64],⟨[.str,.str],.agg [.sc .str,.sc .str],[]⟩,
 fun ((dtext,dlog,text,bytes):Str×Str×Str×Int)=>ZcX dtext dlog text bytes⟩
theorem ZcX.ev:∀d,Zbb C0 (hnd (tab [(56,Zd5.S),(110,Zc5.S),(111,itoa.S)])) Tryz.f52 (.seq .u (.seq (.seq (.reg [.bool] [(15,.sc .bool)]) .u) .u)) ZcX.S d=ZcX.S.F d:=fun _=>by kernel_rfl
theorem ZcX.sound:Zah Tryz.prog C0 52 ZcX.S:=sE Zbf ZcX.ev (Zaj ⟨Zd5.sound,Zc5.sound,itoa.sound,trivial⟩) Tryz.func52
def Zev.S:ZaT:=⟨0,[.sc (.int .i64)],[],[.int .i64],⟨[.str],.sc .str,[]⟩,
 fun (n:Int)=>Zev n⟩
def Zev.SF (k_:Nat):ZaT:=⟨0,[.sc (.int .i64)],[],[.int .i64],⟨[.str],.sc .str,[]⟩,
 fun (n:Int)=>Zk4 k_ n⟩
theorem Zev.ev (k_:Nat):∀d,Zbb C0 (hnd (tab [(151,Zev.SF k_)])) Tryz.f151 .u (Zev.SF (k_+1)) d=(Zev.SF (k_+1)).F d:=fun _=>by kernel_rfl
theorem Zev.soundF:∀k_:Nat,Zah Tryz.prog C0 151 (Zev.SF k_)
 | 0=>⟨rfl,fun _ _ h=>by cases h⟩
 | k_+1=>Zac Zbf (Zaj (l:=[(151,Zev.SF k_)]) ⟨Zev.soundF k_,trivial⟩) Tryz.func151 (by kernel_rfl) (by kernel_rfl) (by kernel_rfl) (Zev.ev k_)
theorem Zev.sound:Zah Tryz.prog C0 151 Zev.S:=Zev.soundF 30
def Zcr.S:ZaT:=⟨0,[.sc (.int .i64)],[],[.int .i64],⟨[.int .i64],.sc (.int .i64),[]⟩,
 fun (n:Int)=>Zcr n⟩
theorem Zcr.ev:∀d,Zbb C0 (hnd (tab [])) Tryz.f263 (.seq .u (.seq .u (.seq (.blk (.loop ⟨[.int .i64,.int .i64],[(0,.sc (.int .i64)),(3,.sc (.int .i64))],[]⟩ (fun ((n1,out):Int×Int)=>(n1-0).toNat+1) 0 ⟨[.int .i64],[(3,.sc (.int .i64))],[]⟩ .u)) .u))) Zcr.S d=Zcr.S.F d:=fun _=>by kernel_rfl
theorem Zcr.sound:Zah Tryz.prog C0 263 Zcr.S:=sE Zbf Zcr.ev (Zaj trivial) Tryz.func263
def ZdG.S:ZaT:=⟨1,[.ptr 0 0,.sc (.int .i64),.sc (.int .i64)],[.box [.full 1,.sc (.int .i64),.sc (.int .i64)],.arr [.int .u8]],[.int .i64,.int .i64,.int .i64,.int .i64,.list [.int .u8]],⟨[.int .i64,.int .i64,.list [.int .u8]],.tup [],[.box [.full 1,.sc (.int .i64),.sc (.int .i64)],.arr [.int .u8]]⟩,
 fun ((num,bits,last,fill,text):Int×Int×Int×Int×List Int)=>ZdG num bits last fill text⟩
theorem ZdG.ev:∀d,Zbb C0 (hnd (tab [(263,Zcr.S)])) Tryz.f239 (.seq .u (.blk (.loop ⟨[.int .i64,.int .i64,.int .i64,.int .i64,.int .i64,.list [.int .u8]],[(0,.ptr 0 0),(1,.sc (.int .i64)),(2,.sc (.int .i64)),(6,.sc (.int .i64))],[.box [.full 1,.sc (.int .i64),.sc (.int .i64)],.arr [.int .u8]]⟩ (fun ((num1,bits1,k,o,o1,o2):Int×Int×Int×Int×Int×List Int)=>(bits1-k).toNat+1) 0 ⟨[.int .i64,.int .i64,.list [.int .u8]],[],[.box [.full 1,.sc (.int .i64),.sc (.int .i64)],.arr [.int .u8]]⟩ (.seq .u (.seq (.blk (.seq .u (.seq .u (.seq .u (.seq .u (.cond (.seq (.cm [(0,[1])]) .u) .u)))))) .u))))) ZdG.S d=ZdG.S.F d:=fun _=>by kernel_rfl
theorem ZdG.sound:Zah Tryz.prog C0 239 ZdG.S:=sE Zbf ZdG.ev (Zaj ⟨Zcr.sound,trivial⟩) Tryz.func239
def Zdf.S:ZaT:=⟨1,[.ptr 0 0],[.box [.full 1,.sc (.int .i64),.sc (.int .i64)],.arr [.int .u8]],[.int .i64,.int .i64,.list [.int .u8]],⟨[.int .i64,.int .i64,.list [.int .u8]],.tup [],[.box [.full 1,.sc (.int .i64),.sc (.int .i64)],.arr [.int .u8]]⟩,
 fun ((last,fill,text):Int×Int×List Int)=>Zdf last fill text⟩
theorem Zdf.ev:∀d,Zbb C0 (hnd (tab [(239,ZdG.S)])) Tryz.f240 .u Zdf.S d=Zdf.S.F d:=fun _=>by kernel_rfl
theorem Zdf.sound:Zah Tryz.prog C0 240 Zdf.S:=sE Zbf Zdf.ev (Zaj ⟨ZdG.sound,trivial⟩) Tryz.func240
def ZiN.S:ZaT:=⟨1,[.ptr 0 0],[.box [.sc .str,.sc (.int .i64),.sc .bool]],[.str,.int .i64,.bool],⟨[.int .i64,.str,.int .i64,.bool],.sc (.int .i64),[.box [.sc .str,.sc (.int .i64),.sc .bool]]⟩,
 fun ((s,at_,bad):Str×Int×Bool)=>ZiN s at_ bad⟩
theorem ZiN.ev:∀d,Zbb C0 (hnd (tab [(263,Zcr.S)])) Tryz.f258 .u ZiN.S d=ZiN.S.F d:=fun _=>by kernel_rfl
theorem ZiN.sound:Zah Tryz.prog C0 258 ZiN.S:=sE Zbf ZiN.ev (Zaj ⟨Zcr.sound,trivial⟩) Tryz.func258
def ZeA.S:ZaT:=⟨1,[.ptr 0 0,.sc (.int .i64)],[.box [.sc .str,.sc (.int .i64),.sc .bool]],[.int .i64,.str,.int .i64,.bool],⟨[.int .i64,.str,.int .i64,.bool],.sc (.int .i64),[.box [.sc .str,.sc (.int .i64),.sc .bool]]⟩,
 fun ((bits,s,at_,bad):Int×Str×Int×Bool)=>ZeA bits s at_ bad⟩
theorem ZeA.ev:∀d,Zbb C0 (hnd (tab [(258,ZiN.S),(263,Zcr.S)])) Tryz.f259 (.seq .u (.seq .u (.seq (.seq .u (.blk (.loop ⟨[.int .i64,.int .i64,.int .i64,.str,.int .i64,.bool],[(0,.ptr 0 0),(1,.sc (.int .i64)),(5,.sc (.int .i64)),(6,.sc (.int .i64))],[.box [.sc .str,.sc (.int .i64),.sc .bool]]⟩ (fun ((bits1,n,k,o,o1,o2):Int×Int×Int×Str×Int×Bool)=>(bits1-k).toNat+1) 0 ⟨[.int .i64,.str,.int .i64,.bool],[(5,.sc (.int .i64))],[.box [.sc .str,.sc (.int .i64),.sc .bool]]⟩ .u))) .u))) ZeA.S d=ZeA.S.F d:=fun _=>by kernel_rfl
theorem ZeA.sound:Zah Tryz.prog C0 259 ZeA.S:=sE Zbf ZeA.ev (Zaj ⟨ZiN.sound,Zcr.sound,trivial⟩) Tryz.func259
def Zct.S:ZaT:=⟨1,[.ptr 0 0],[.box [.sc .str,.sc (.int .i64),.sc .bool]],[.str,.int .i64,.bool],⟨[.bool,.str,.int .i64,.bool],.sc .bool,[.box [.sc .str,.sc (.int .i64),.sc .bool]]⟩,
 fun ((s,at_,bad):Str×Int×Bool)=>Zct s at_ bad⟩
theorem Zct.ev:∀d,Zbb C0 (hnd (tab [(258,ZiN.S)])) Tryz.f238 (.seq .u (.seq .u (.seq (.blk (.loop ⟨[.int .i64,.str,.int .i64,.bool],[(0,.ptr 0 0),(3,.sc (.int .i64))],[.box [.sc .str,.sc (.int .i64),.sc .bool]]⟩ (fun ((n,o,o1,o2):Int×Str×Int×Bool)=>9) 0 ⟨[.int .i64,.str,.int .i64,.bool],[(3,.sc (.int .i64))],[.box [.sc .str,.sc (.int .i64),.sc .bool]]⟩ .u)) .u))) Zct.S d=Zct.S.F d:=fun _=>by kernel_rfl
theorem Zct.sound:Zah Tryz.prog C0 238 Zct.S:=sE Zbf Zct.ev (Zaj ⟨ZiN.sound,trivial⟩) Tryz.func238
def ZcL.S:ZaT:=⟨0,[.sc (.int .i64),.sc (.int .i64)],[],[.int .i64,.int .i64],⟨[.int .i64],.sc (.int .i64),[]⟩,
 fun ((num,bits):Int×Int)=>ZcL num bits⟩
theorem ZcL.ev:∀d,Zbb C0 (hnd (tab [])) Tryz.f285 (.seq .u (.seq .u (.seq (.seq .u (.blk (.loop ⟨[.int .i64,.int .i64,.int .i64,.int .i64],[(0,.sc (.int .i64)),(1,.sc (.int .i64)),(5,.sc (.int .i64)),(6,.sc (.int .i64))],[]⟩ (fun ((num1,bits1,n,k):Int×Int×Int×Int)=>(bits1-k).toNat+1) 0 ⟨[.int .i64],[(5,.sc (.int .i64))],[]⟩ .u))) .u))) ZcL.S d=ZcL.S.F d:=fun _=>by kernel_rfl
theorem ZcL.sound:Zah Tryz.prog C0 285 ZcL.S:=sE Zbf ZcL.ev (Zaj trivial) Tryz.func285
def ZcK.S:ZaT:=⟨0,[.sc (.int .u32),.sc (.int .u8)],[],[.int .u32,.int .u8],⟨[.int .u32],.sc (.int .u32),[]⟩,
 fun ((c,b):Int×Int)=>ZcK c b⟩
theorem ZcK.ev:∀d,Zbb C0 (hnd (tab [])) Tryz.f221 (.seq .u (.seq .u (.seq (.seq .u (.blk (.loop ⟨[.int .u32,.int .i64],[(0,.sc (.int .u32)),(5,.sc (.int .i64))],[]⟩ (fun ((c1,k):Int×Int)=>(8-k).toNat+1) 0 ⟨[.int .u32],[(0,.sc (.int .u32))],[]⟩ .u))) .u))) ZcK.S d=ZcK.S.F d:=fun _=>by kernel_rfl
theorem ZcK.sound:Zah Tryz.prog C0 221 ZcK.S:=sE Zbf ZcK.ev (Zaj trivial) Tryz.func221
end Ev
end
section
open Go Go.Proofs
set_option maxRecDepth 100000
namespace Ev
set_option maxHeartbeats 1000000
def ZcP.S:ZaT:=⟨0,[.sc (.int .u32),.sc .str],[],[.int .u32,.str],⟨[.int .u32],.sc (.int .u32),[]⟩,
 fun ((crc_,text):Int×Str)=>ZcP crc_ text⟩
theorem ZcP.ev:∀d,Zbb C0 (hnd (tab [(221,ZcK.S)])) Tryz.f187 (.seq .u (.seq .u (.seq (.seq .u (.blk (.loop ⟨[.str,.int .u32,.int .i64],[(1,.sc .str),(5,.sc (.int .u32)),(6,.sc (.int .i64))],[]⟩ (fun ((text1,c,i):Str×Int×Int)=>((text1.length:Int)-i).toNat+1) 0 ⟨[.int .u32],[(5,.sc (.int .u32))],[]⟩ .u))) .u))) ZcP.S d=ZcP.S.F d:=fun _=>by kernel_rfl
theorem ZcP.sound:Zah Tryz.prog C0 187 ZcP.S:=sE Zbf ZcP.ev (Zaj ⟨ZcK.sound,trivial⟩) Tryz.func187
def Zc3.S:ZaT:=⟨0,[.sc .str],[],[.str],⟨[.int .i64],.sc (.int .i64),[]⟩,
 fun (text:Str)=>Zc3 text⟩
theorem Zc3.ev:∀d,Zbb C0 (hnd (tab [(187,ZcP.S)])) Tryz.f155 .u Zc3.S d=Zc3.S.F d:=fun _=>by kernel_rfl
theorem Zc3.sound:Zah Tryz.prog C0 155 Zc3.S:=sE Zbf Zc3.ev (Zaj ⟨ZcP.sound,trivial⟩) Tryz.func155
def Zcj.S:ZaT:=⟨0,[.sc (.list [.int .i64])],[],[.list [.int .i64]],⟨[.int .i64],.sc (.int .i64),[]⟩,
 fun (lens:List Int)=>Zcj lens⟩
theorem Zcj.ev:∀d,Zbb C0 (hnd (tab [])) Tryz.f271 (.seq .u (.seq .u (.seq (.seq .u (.blk (.loop ⟨[.list [.int .i64],.int .i64,.int .i64],[(0,.sc (.list [.int .i64])),(3,.sc (.int .i64)),(4,.sc (.int .i64))],[]⟩ (fun ((lens1,n,i):List Int×Int×Int)=>((lens1.length:Int)-i).toNat+1) 0 ⟨[.int .i64],[(3,.sc (.int .i64))],[]⟩ .u))) .u))) Zcj.S d=Zcj.S.F d:=fun _=>by kernel_rfl
theorem Zcj.sound:Zah Tryz.prog C0 271 Zcj.S:=sE Zbf Zcj.ev (Zaj trivial) Tryz.func271
def ZaK.S:ZaT:=⟨0,[.sc (.list [.int .i64])],[],[.list [.int .i64]],⟨[.bool],.sc .bool,[]⟩,
 fun (lens:List Int)=>ZaK lens⟩
theorem ZaK.ev:∀d,Zbb C0 (hnd (tab [(116,ZgA.S),(263,Zcr.S),(271,Zcj.S)])) Tryz.f279 (.seq .u (.seq .u (.seq (.seq .u (.blk (.loopS ⟨[.list [.int .i64],.int .i64,.int .i64],[(0,.sc (.list [.int .i64])),(3,.sc (.int .i64)),(4,.sc (.int .i64))],[]⟩ (fun ((lens1,sum,i):List Int×Int×Int)=>((lens1.length:Int)-i).toNat+1) 0 ⟨[.list [.int .i64],.int .i64],[(0,.sc (.list [.int .i64])),(3,.sc (.int .i64))],[]⟩ .u))) (.seq (.reg [.bool] [(5,.sc .bool)]) (.seq (.reg [.bool] [(2,.sc .bool)]) .u))))) ZaK.S d=ZaK.S.F d:=fun _=>by kernel_rfl
theorem ZaK.sound:Zah Tryz.prog C0 279 ZaK.S:=sE Zbf ZaK.ev (Zaj ⟨ZgA.sound,Zcr.sound,Zcj.sound,trivial⟩) Tryz.func279
def ZaH.S:ZaT:=⟨0,[.sc (.list [.int .i64])],[],[.list [.int .i64]],⟨[.list [.int .i64]],.full 0,[.arr [.int .i64]]⟩,
 fun (lens:List Int)=>ZaH lens⟩
theorem ZaH.ev:∀d,Zbb C0 (hnd (tab [])) Tryz.f264 (.seq .u (.seq .u (.seq .u (.seq (.seq .u (.blk (.loop ⟨[.list [.int .i64],.int .i64,.int .i64,.list [.int .i64]],[(0,.sc (.list [.int .i64])),(3,.full 0),(4,.sc (.int .i64)),(5,.sc (.int .i64))],[.arr [.int .i64]]⟩ (fun ((lens1,code_,n,out):List Int×Int×Int×List Int)=>(15-n).toNat+2) 0 ⟨[.list [.int .i64]],[(3,.full 0)],[.arr [.int .i64]]⟩ (.seq .u (.seq (.blk (.seq (.seq .u (.blk (.loop ⟨[.list [.int .i64],.int .i64,.int .i64,.int .i64,.list [.int .i64]],[(0,.sc (.list [.int .i64])),(3,.full 0),(4,.sc (.int .i64)),(5,.sc (.int .i64)),(6,.sc (.int .i64))],[.arr [.int .i64]]⟩ (fun ((lens2,code_1,n1,i,out1):List Int×Int×Int×Int×List Int)=>((lens2.length:Int)-i).toNat+1) 2 ⟨[.list [.int .i64],.int .i64,.int .i64,.list [.int .i64]],[(0,.sc (.list [.int .i64])),(3,.full 0),(4,.sc (.int .i64)),(5,.sc (.int .i64))],[.arr [.int .i64]]⟩ .u))) .u)) .u))))) .u)))) ZaH.S d=ZaH.S.F d:=fun _=>by kernel_rfl
theorem ZaH.sound:Zah Tryz.prog C0 264 ZaH.S:=sE Zbf ZaH.ev (Zaj trivial) Tryz.func264
def ZbO.S:ZaT:=⟨0,[.sc (.list [.int .i64,.int .i64,.ints .i64])],[],[.list [.int .i64,.int .i64,.ints .i64]],⟨[.int .i64],.sc (.int .i64),[]⟩,
 fun (list:List (Int×Int×List Int))=>ZbO list⟩
theorem ZbO.ev:∀d,Zbb C0 (hnd (tab [])) Tryz.f282 (.seq .u (.seq .u (.seq (.seq .u (.blk (.loop ⟨[.list [.int .i64,.int .i64,.ints .i64],.int .i64,.int .i64],[(0,.sc (.list [.int .i64,.int .i64,.ints .i64])),(3,.sc (.int .i64)),(4,.sc (.int .i64))],[]⟩ (fun ((list1,at_,i):(List (Int×Int×List Int))×Int×Int)=>((list1.length:Int)-i).toNat+1) 0 ⟨[.int .i64],[(3,.sc (.int .i64))],[]⟩ (.seq .u (.seq (.blk (.seq (.reg [.bool] [(47,.sc .bool)]) .u)) .u))))) .u))) ZbO.S d=ZbO.S.F d:=fun _=>by kernel_rfl
theorem ZbO.sound:Zah Tryz.prog C0 282 ZbO.S:=sE Zbf ZbO.ev (Zaj trivial) Tryz.func282
def Ze8.S:ZaT:=⟨0,[.sc (.list [.int .i64,.int .i64,.ints .i64]),.sc (.int .i64)],[],[.list [.int .i64,.int .i64,.ints .i64],.int .i64],⟨[.list [.int .i64,.int .i64,.ints .i64]],.full 0,[.arr [.int .i64,.int .i64,.ints .i64]]⟩,
 fun ((list,at_):(List (Int×Int×List Int))×Int)=>Ze8 list at_⟩
theorem Ze8.ev:∀d,Zbb C0 (hnd (tab [])) Tryz.f283 .u Ze8.S d=Ze8.S.F d:=fun _=>by kernel_rfl
theorem Ze8.sound:Zah Tryz.prog C0 283 Ze8.S:=sE Zbf Ze8.ev (Zaj trivial) Tryz.func283
def Za8.S:ZaT:=⟨0,[.sc (.list [.int .i64])],[],[.list [.int .i64]],⟨[.list [.int .i64]],.full 0,[.arr [.int .i64]]⟩,
 fun (counts:List Int)=>Za8 counts⟩
theorem Za8.ev:∀d,Zbb C0 (hnd (tab [(282,ZbO.S),(283,Ze8.S)])) Tryz.f272 (.seq .u (.seq .u (.seq .u (.seq (.seq .u (.blk (.loop ⟨[.list [.int .i64],.int .i64,.list [.int .i64],.list [.int .i64,.int .i64,.ints .i64]],[(0,.sc (.list [.int .i64])),(3,.full 0),(4,.full 1),(5,.sc (.int .i64))],[.arr [.int .i64],.arr [.int .i64,.int .i64,.ints .i64]]⟩ (fun ((counts1,i,out,list):List Int×Int×List Int×List (Int×Int×List Int))=>((counts1.length:Int)-i).toNat+1) 0 ⟨[.list [.int .i64],.list [.int .i64,.int .i64,.ints .i64]],[(3,.full 0),(4,.full 1)],[.arr [.int .i64],.arr [.int .i64,.int .i64,.ints .i64]]⟩ .u))) (.join ⟨[.list [.int .i64],.list [.int .i64,.int .i64,.ints .i64]],[(3,.full 0),(4,.full 1)],[.arr [.int .i64],.arr [.int .i64,.int .i64,.ints .i64]]⟩ .u (.seq (.blk (.loop ⟨[.list [.int .i64],.list [.int .i64,.int .i64,.ints .i64]],[(3,.full 0),(4,.full 1)],[.arr [.int .i64],.arr [.int .i64,.int .i64,.ints .i64]]⟩ (fun ((out3,list3):List Int×List (Int×Int×List Int))=>((list3.length:Int)-1).toNat+1) 2 ⟨[.list [.int .i64]],[(3,.full 0)],[.arr [.int .i64]]⟩ (.seq .u (.blk (.seq .u (.seq .u (.seq .u (.seq .u (.seq .u (.seq .u (.seq .u (.join ⟨[.int .i64,.list [.int .i64],.list [.int .i64,.int .i64,.ints .i64],.int .i64,.int .i64,.list [.int .i64],.int .i64,.int .i64,.list [.int .i64]],[(3,.full 0),(4,.full 1),(7,.ptr 2 0),(8,.ptr 3 0),(9,.sc (.int .i64))],[.arr [.int .i64],.arr [.int .i64,.int .i64,.ints .i64],.box [.sc (.int .i64),.sc (.int .i64),.sc (.list [.int .i64])],.box [.sc (.int .i64),.sc (.int .i64),.sc (.list [.int .i64])]]⟩ .u (.seq .u (.seq (.seq .u (.blk (.loop ⟨[.int .i64,.int .i64,.list [.int .i64],.list [.int .i64,.int .i64,.ints .i64],.int .i64,.int .i64,.list [.int .i64],.int .i64,.int .i64,.list [.int .i64],.list [.int .i64]],[(3,.full 0),(4,.full 1),(7,.ptr 2 0),(8,.ptr 3 0),(9,.sc (.int .i64)),(10,.full 4),(11,.sc (.int .i64))],[.arr [.int .i64],.arr [.int .i64,.int .i64,.ints .i64],.box [.sc (.int .i64),.sc (.int .i64),.sc (.list [.int .i64])],.box [.sc (.int .i64),.sc (.int .i64),.sc (.list [.int .i64])],.arr [.int .i64]]⟩ (fun ((first1,i1,out5,list5,o6,o7,o8,o9,o10,o11,syms):Int×Int×List Int×(List (Int×Int×List Int))×Int×Int×List Int×Int×Int×List Int×List Int)=>((syms.length:Int)-i1).toNat+1) 4 ⟨[.int .i64,.list [.int .i64],.list [.int .i64,.int .i64,.ints .i64],.int .i64,.int .i64,.list [.int .i64],.int .i64,.int .i64,.list [.int .i64],.list [.int .i64]],[(3,.full 0),(4,.full 1),(7,.ptr 2 0),(8,.ptr 3 0),(9,.sc (.int .i64)),(10,.full 4)],[.arr [.int .i64],.arr [.int .i64,.int .i64,.ints .i64],.box [.sc (.int .i64),.sc (.int .i64),.sc (.list [.int .i64])],.box [.sc (.int .i64),.sc (.int .i64),.sc (.list [.int .i64])],.arr [.int .i64]]⟩ .u))) .u)))))))))))))) .u)))))) Za8.S d=Za8.S.F d:=fun _=>by kernel_rfl
theorem Za8.sound:Zah Tryz.prog C0 272 Za8.S:=sE Zbf Za8.ev (Zaj ⟨ZbO.sound,Ze8.sound,trivial⟩) Tryz.func272
def ZcJ.S:ZaT:=⟨0,[.sc (.list [.int .i64])],[],[.list [.int .i64]],⟨[.int .i64],.sc (.int .i64),[]⟩,
 fun (lens:List Int)=>ZcJ lens⟩
theorem ZcJ.ev:∀d,Zbb C0 (hnd (tab [])) Tryz.f273 (.seq .u (.seq .u (.seq (.seq .u (.blk (.loop ⟨[.list [.int .i64],.int .i64,.int .i64],[(0,.sc (.list [.int .i64])),(3,.sc (.int .i64)),(4,.sc (.int .i64))],[]⟩ (fun ((lens1,n,i):List Int×Int×Int)=>((lens1.length:Int)-i).toNat+1) 0 ⟨[.int .i64],[(3,.sc (.int .i64))],[]⟩ .u))) .u))) ZcJ.S d=ZcJ.S.F d:=fun _=>by kernel_rfl
theorem ZcJ.sound:Zah Tryz.prog C0 273 ZcJ.S:=sE Zbf ZcJ.ev (Zaj trivial) Tryz.func273
def Zcw.S:ZaT:=⟨0,[.sc (.list [.int .i64]),.sc (.int .i64)],[],[.list [.int .i64],.int .i64],⟨[.list [.int .i64]],.full 0,[.arr [.int .i64]]⟩,
 fun ((counts,most):List Int×Int)=>Zcw counts most⟩
theorem Zcw.ev:∀d,Zbb C0 (hnd (tab [(272,Za8.S),(273,ZcJ.S)])) Tryz.f247 (.seq .u (.seq .u (.seq .u (.seq (.blk (.loop ⟨[.int .i64,.list [.int .i64],.list [.int .i64]],[(1,.sc (.int .i64)),(5,.full 0),(6,.full 1)],[.arr [.int .i64],.arr [.int .i64]]⟩ (fun ((most1,list,out):Int×List Int×List Int)=>100000) 0 ⟨[.list [.int .i64]],[(6,.full 0)],[.arr [.int .i64]]⟩ (.seq .u (.blk (.seq (.seq .u (.blk (.loop ⟨[.int .i64,.int .i64,.list [.int .i64]],[(1,.sc (.int .i64)),(5,.full 0),(7,.sc (.int .i64))],[.arr [.int .i64]]⟩ (fun ((most2,i,list1):Int×Int×List Int)=>((list1.length:Int)-i).toNat+1) 2 ⟨[.int .i64,.list [.int .i64]],[(1,.sc (.int .i64)),(5,.full 0)],[.arr [.int .i64]]⟩ .u))) .u))))) .u)))) Zcw.S d=Zcw.S.F d:=fun _=>by kernel_rfl
theorem Zcw.sound:Zah Tryz.prog C0 247 Zcw.S:=sE Zbf Zcw.ev (Zaj ⟨Za8.sound,ZcJ.sound,trivial⟩) Tryz.func247
def Zef.S:ZaT:=⟨0,[.sc (.list [.int .i64]),.sc (.list [.int .i64]),.sc (.int .i64)],[],[.list [.int .i64],.list [.int .i64],.int .i64],⟨[.int .i64,.int .i64],.agg [.sc (.int .i64),.sc (.int .i64)],[]⟩,
 fun ((lens,codes_,sym):List Int×List Int×Int)=>Zef lens codes_ sym⟩
theorem Zef.ev:∀d,Zbb C0 (hnd (tab [(285,ZcL.S)])) Tryz.f281 .u Zef.S d=Zef.S.F d:=fun _=>by kernel_rfl
theorem Zef.sound:Zah Tryz.prog C0 281 Zef.S:=sE Zbf Zef.ev (Zaj ⟨ZcL.sound,trivial⟩) Tryz.func281
def ZaO.S:ZaT:=⟨1,[.ptr 0 0,.sc (.list [.int .i64]),.sc (.list [.int .i64])],[.box [.sc .str,.sc (.int .i64),.sc .bool]],[.list [.int .i64],.list [.int .i64],.str,.int .i64,.bool],⟨[.int .i64,.str,.int .i64,.bool],.sc (.int .i64),[.box [.sc .str,.sc (.int .i64),.sc .bool]]⟩,
 fun ((lens,codes_,s,at_,bad):List Int×List Int×Str×Int×Bool)=>ZaO lens codes_ s at_ bad⟩
theorem ZaO.ev:∀d,Zbb C0 (hnd (tab [(258,ZiN.S)])) Tryz.f277 (.seq .u (.seq .u (.seq (.seq .u (.blk (.loopS ⟨[.list [.int .i64],.list [.int .i64],.int .i64,.int .i64,.str,.int .i64,.bool],[(0,.ptr 0 0),(1,.sc (.list [.int .i64])),(2,.sc (.list [.int .i64])),(7,.sc (.int .i64)),(8,.sc (.int .i64))],[.box [.sc .str,.sc (.int .i64),.sc .bool]]⟩ (fun ((lens1,codes_1,code_,n,o,o1,o2):List Int×List Int×Int×Int×Str×Int×Bool)=>(15-n).toNat+2) 0 ⟨[.str,.int .i64,.bool],[(0,.ptr 0 0)],[.box [.sc .str,.sc (.int .i64),.sc .bool]]⟩ (.seq (.seq (.reg [.bool] [(18,.sc .bool)]) .u) (.seq (.blk (.seq .u (.seq .u (.blk (.loopS ⟨[.list [.int .i64],.list [.int .i64],.int .i64,.int .i64,.int .i64,.str,.int .i64,.bool],[(0,.ptr 0 0),(1,.sc (.list [.int .i64])),(2,.sc (.list [.int .i64])),(7,.sc (.int .i64)),(8,.sc (.int .i64)),(9,.sc (.int .i64))],[.box [.sc .str,.sc (.int .i64),.sc .bool]]⟩ (fun ((lens2,codes_2,code_1,n1,i,o3,o4,o5):List Int×List Int×Int×Int×Int×Str×Int×Bool)=>((lens2.length:Int)-i).toNat+1) 2 ⟨[.list [.int .i64],.list [.int .i64],.int .i64,.int .i64,.str,.int .i64,.bool],[(0,.ptr 0 0),(1,.sc (.list [.int .i64])),(2,.sc (.list [.int .i64])),(7,.sc (.int .i64)),(8,.sc (.int .i64))],[.box [.sc .str,.sc (.int .i64),.sc .bool]]⟩ (.seq .u (.seq (.blk (.seq (.reg [.bool] [(45,.sc .bool)]) .u)) .u))))))) .u))))) .u))) ZaO.S d=ZaO.S.F d:=fun _=>by kernel_rfl
theorem ZaO.sound:Zah Tryz.prog C0 277 ZaO.S:=sE Zbf ZaO.ev (Zaj ⟨ZiN.sound,trivial⟩) Tryz.func277
def Zee.S:ZaT:=⟨0,[.full 0,.agg [.sc (.int .i64),.sc (.int .i64),.sc (.int .i64)]],[.arr [.int .u8]],[.int .i64,.int .i64,.int .i64,.list [.int .u8]],⟨[.bool,.list [.int .u8]],.tup [.full 0,.sc .bool],[.arr [.int .u8]]⟩,
 fun ((byte,long,back,text):Int×Int×Int×List Int)=>Zee byte long back text⟩
theorem Zee.ev:∀d,Zbb C0 (hnd (tab [(116,ZgA.S)])) Tryz.f284 (.seq .u (.seq .u (.seq (.seq (.reg [.bool] [(45,.sc .bool)]) .u) (.seq (.seq .u (.blk (.loop ⟨[.int .i64,.list [.int .u8],.int .i64,.int .i64,.int .i64],[(0,.full 0),(3,.ptr 1 0),(6,.sc (.int .i64))],[.arr [.int .u8],.box [.sc (.int .i64),.sc (.int .i64),.sc (.int .i64)]]⟩ (fun ((i,text1,o,o1,o2):Int×List Int×Int×Int×Int)=>(o1-i).toNat+1) 0 ⟨[.list [.int .u8]],[(0,.full 0)],[.arr [.int .u8]]⟩ .u))) .u)))) Zee.S d=Zee.S.F d:=fun _=>by kernel_rfl
theorem Zee.sound:Zah Tryz.prog C0 284 Zee.S:=sE Zbf Zee.ev (Zaj ⟨ZgA.sound,trivial⟩) Tryz.func284
def ZbV.S:ZaT:=⟨0,[.sc .str,.sc (.int .i64),.sc (.int .i64)],[],[.str,.int .i64,.int .i64],⟨[.int .i64],.sc (.int .i64),[]⟩,
 fun ((text,at_,back):Str×Int×Int)=>ZbV text at_ back⟩
theorem ZbV.ev:∀d,Zbb C0 (hnd (tab [])) Tryz.f270 (.seq .u (.seq .u (.seq (.blk (.loop ⟨[.str,.int .i64,.int .i64,.int .i64],[(0,.sc .str),(1,.sc (.int .i64)),(2,.sc (.int .i64)),(7,.sc (.int .i64))],[]⟩ (fun ((text1,at_1,back1,n):Str×Int×Int×Int)=>62) 0 ⟨[.int .i64],[(7,.sc (.int .i64))],[]⟩ (.seq (.seq (.reg [.bool] [(32,.sc .bool)]) .u) .u))) .u))) ZbV.S d=ZbV.S.F d:=fun _=>by kernel_rfl
theorem ZbV.sound:Zah Tryz.prog C0 270 ZbV.S:=sE Zbf ZbV.ev (Zaj trivial) Tryz.func270
def ZaF.S:ZaT:=⟨0,[.sc .str],[],[.str],⟨[.list [.int .i64,.int .i64,.int .i64]],.full 0,[.arr [.int .i64,.int .i64,.int .i64]]⟩,
 fun (text:Str)=>ZaF text⟩
theorem ZaF.ev:∀d,Zbb C0 (hnd (tab [(270,ZbV.S)])) Tryz.f242 (.seq .u (.seq .u (.seq (.seq .u (.blk (.loop ⟨[.str,.int .i64,.list [.int .i64,.int .i64,.int .i64]],[(0,.sc .str),(3,.full 0),(4,.sc (.int .i64))],[.arr [.int .i64,.int .i64,.int .i64]]⟩ (fun ((text1,at_,out):Str×Int×List (Int×Int×Int))=>((text1.length:Int)-at_).toNat+1) 0 ⟨[.list [.int .i64,.int .i64,.int .i64]],[(3,.full 0)],[.arr [.int .i64,.int .i64,.int .i64]]⟩ (.seq .u (.blk (.seq .u (.seq .u (.seq (.seq .u (.blk (.loop ⟨[.str,.int .i64,.int .i64,.int .i64,.int .i64,.list [.int .i64,.int .i64,.int .i64]],[(0,.sc .str),(3,.full 0),(4,.sc (.int .i64)),(5,.sc (.int .i64)),(6,.sc (.int .i64)),(7,.sc (.int .i64))],[.arr [.int .i64,.int .i64,.int .i64]]⟩ (fun ((text2,at_1,long,far,back,out1):Str×Int×Int×Int×Int×List (Int×Int×Int))=>(250-back).toNat+2) 2 ⟨[.str,.int .i64,.int .i64,.int .i64,.list [.int .i64,.int .i64,.int .i64]],[(0,.sc .str),(3,.full 0),(4,.sc (.int .i64)),(5,.sc (.int .i64)),(6,.sc (.int .i64))],[.arr [.int .i64,.int .i64,.int .i64]]⟩ (.seq (.seq (.reg [.bool] [(20,.sc .bool)]) .u) .u)))) .u)))))))) .u))) ZaF.S d=ZaF.S.F d:=fun _=>by kernel_rfl
theorem ZaF.sound:Zah Tryz.prog C0 242 ZaF.S:=sE Zbf ZaF.ev (Zaj ⟨ZbV.sound,trivial⟩) Tryz.func242
def Zcv.S:ZaT:=⟨0,[.sc (.list [.int .i64]),.sc (.int .i64)],[],[.list [.int .i64],.int .i64],⟨[.list [.int .i64]],.full 0,[.arr [.int .i64]]⟩,
 fun ((extra,from_):List Int×Int)=>Zcv extra from_⟩
theorem Zcv.ev:∀d,Zbb C0 (hnd (tab [(263,Zcr.S)])) Tryz.f265 (.seq .u (.seq .u (.seq (.seq .u (.blk (.loop ⟨[.list [.int .i64],.int .i64,.int .i64,.list [.int .i64]],[(0,.sc (.list [.int .i64])),(1,.sc (.int .i64)),(5,.full 0),(6,.sc (.int .i64))],[.arr [.int .i64]]⟩ (fun ((extra1,from_1,i,out):List Int×Int×Int×List Int)=>((extra1.length:Int)-i).toNat+1) 0 ⟨[.list [.int .i64]],[(5,.full 0)],[.arr [.int .i64]]⟩ .u))) .u))) Zcv.S d=Zcv.S.F d:=fun _=>by kernel_rfl
theorem Zcv.sound:Zah Tryz.prog C0 265 Zcv.S:=sE Zbf Zcv.ev (Zaj ⟨Zcr.sound,trivial⟩) Tryz.func265
def Za4.S:ZaT:=⟨0,[],[],[],⟨[.list [.int .i64]],.full 0,[.arr [.int .i64]]⟩,
 fun (_:Unit)=>Za4⟩
theorem Za4.ev:∀d,Zbb C0 (hnd (tab [])) Tryz.f266 .u Za4.S d=Za4.S.F d:=fun _=>by kernel_rfl
theorem Za4.sound:Zah Tryz.prog C0 266 Za4.S:=sE Zbf Za4.ev (Zaj trivial) Tryz.func266
def Za5.S:ZaT:=⟨0,[],[],[],⟨[.list [.int .i64]],.full 0,[.arr [.int .i64]]⟩,
 fun (_:Unit)=>Za5⟩
theorem Za5.ev:∀d,Zbb C0 (hnd (tab [])) Tryz.f267 .u Za5.S d=Za5.S.F d:=fun _=>by kernel_rfl
theorem Za5.sound:Zah Tryz.prog C0 267 Za5.S:=sE Zbf Za5.ev (Zaj trivial) Tryz.func267
def Zeu.S:ZaT:=⟨0,[.sc (.list [.int .i64]),.sc (.int .i64)],[],[.list [.int .i64],.int .i64],⟨[.int .i64],.sc (.int .i64),[]⟩,
 fun ((base,n):List Int×Int)=>Zeu base n⟩
theorem Zeu.ev:∀d,Zbb C0 (hnd (tab [])) Tryz.f269 (.seq .u (.seq .u (.seq (.blk (.loop ⟨[.list [.int .i64],.int .i64,.int .i64],[(0,.sc (.list [.int .i64])),(1,.sc (.int .i64)),(5,.sc (.int .i64))],[]⟩ (fun ((base1,n1,k):List Int×Int×Int)=>(base1.length:Int).toNat+1) 0 ⟨[.int .i64],[(5,.sc (.int .i64))],[]⟩ (.seq (.seq (.reg [.bool] [(19,.sc .bool)]) .u) .u))) .u))) Zeu.S d=Zeu.S.F d:=fun _=>by kernel_rfl
theorem Zeu.sound:Zah Tryz.prog C0 269 Zeu.S:=sE Zbf Zeu.ev (Zaj trivial) Tryz.func269
def ZcA.S:ZaT:=⟨0,[],[],[],⟨[.list [.int .i64]],.full 0,[.arr [.int .i64]]⟩,
 fun (_:Unit)=>ZcA⟩
theorem ZcA.ev:∀d,Zbb C0 (hnd (tab [])) Tryz.f243 (.seq .u (.seq .u (.seq (.seq .u (.blk (.loop ⟨[.int .i64,.list [.int .i64]],[(1,.full 0),(2,.sc (.int .i64))],[.arr [.int .i64]]⟩ (fun ((i,out):Int×List Int)=>(288-i).toNat+1) 0 ⟨[.list [.int .i64]],[(1,.full 0)],[.arr [.int .i64]]⟩ .u))) .u))) ZcA.S d=ZcA.S.F d:=fun _=>by kernel_rfl
theorem ZcA.sound:Zah Tryz.prog C0 243 ZcA.S:=sE Zbf ZcA.ev (Zaj trivial) Tryz.func243
def ZcB.S:ZaT:=⟨0,[],[],[],⟨[.list [.int .i64]],.full 0,[.arr [.int .i64]]⟩,
 fun (_:Unit)=>ZcB⟩
theorem ZcB.ev:∀d,Zbb C0 (hnd (tab [])) Tryz.f244 (.seq .u (.seq .u (.seq (.seq .u (.blk (.loop ⟨[.int .i64,.list [.int .i64]],[(1,.full 0),(2,.sc (.int .i64))],[.arr [.int .i64]]⟩ (fun ((i,out):Int×List Int)=>(32-i).toNat+1) 0 ⟨[.list [.int .i64]],[(1,.full 0)],[.arr [.int .i64]]⟩ .u))) .u))) ZcB.S d=ZcB.S.F d:=fun _=>by kernel_rfl
theorem ZcB.sound:Zah Tryz.prog C0 244 ZcB.S:=sE Zbf ZcB.ev (Zaj trivial) Tryz.func244
def ZlW.S:ZaT:=⟨1,[.ptr 0 0,.sc (.list [.int .i64]),.sc (.list [.int .i64]),.sc (.int .i64)],[.box [.full 1,.sc (.int .i64),.sc (.int .i64)],.arr [.int .u8]],[.list [.int .i64],.list [.int .i64],.int .i64,.int .i64,.int .i64,.list [.int .u8]],⟨[.int .i64,.int .i64,.list [.int .u8]],.tup [],[.box [.full 1,.sc (.int .i64),.sc (.int .i64)],.arr [.int .u8]]⟩,
 fun ((lens,codes_,sym,last,fill,text):List Int×List Int×Int×Int×Int×List Int)=>ZlW lens codes_ sym last fill text⟩
theorem ZlW.ev:∀d,Zbb C0 (hnd (tab [(239,ZdG.S),(281,Zef.S)])) Tryz.f268 .u ZlW.S d=ZlW.S.F d:=fun _=>by kernel_rfl
theorem ZlW.sound:Zah Tryz.prog C0 268 ZlW.S:=sE Zbf ZlW.ev (Zaj ⟨ZdG.sound,Zef.sound,trivial⟩) Tryz.func268
def ZbA.S:ZaT:=⟨1,[.ptr 0 0,.sc (.list [.int .i64,.int .i64,.int .i64]),.sc (.list [.int .i64]),.sc (.list [.int .i64])],[.box [.full 1,.sc (.int .i64),.sc (.int .i64)],.arr [.int .u8]],[.list [.int .i64,.int .i64,.int .i64],.list [.int .i64],.list [.int .i64],.int .i64,.int .i64,.list [.int .u8]],⟨[.int .i64,.int .i64,.list [.int .u8]],.tup [],[.box [.full 1,.sc (.int .i64),.sc (.int .i64)],.arr [.int .u8]]⟩,
 fun ((list,longs,backs,last,fill,text):(List (Int×Int×Int))×List Int×List Int×Int×Int×List Int)=>ZbA list longs backs last fill text⟩
theorem ZbA.ev:∀d,Zbb C0 (hnd (tab [(239,ZdG.S),(264,ZaH.S),(265,Zcv.S),(266,Za4.S),(267,Za5.S),(268,ZlW.S),(269,Zeu.S)])) Tryz.f241 (.seq .u (.seq .u (.seq .u (.seq .u (.seq (.seq .u (.blk (.loop ⟨[.list [.int .i64,.int .i64,.int .i64],.list [.int .i64],.list [.int .i64],.int .i64,.int .i64,.int .i64,.list [.int .i64],.list [.int .i64],.list [.int .i64],.list [.int .i64],.list [.int .u8]],[(0,.ptr 0 0),(1,.sc (.list [.int .i64,.int .i64,.int .i64])),(2,.sc (.list [.int .i64])),(3,.sc (.list [.int .i64])),(8,.full 1),(9,.full 2),(10,.full 3),(11,.full 4),(12,.sc (.int .i64))],[.box [.full 5,.sc (.int .i64),.sc (.int .i64)],.arr [.int .i64],.arr [.int .i64],.arr [.int .i64],.arr [.int .i64],.arr [.int .u8]]⟩ (fun ((list1,longs1,backs1,i,o,o1,a,b,long,back,o2):(List (Int×Int×Int))×List Int×List Int×Int×Int×Int×List Int×List Int×List Int×List Int×List Int)=>((list1.length:Int)-i).toNat+1) 0 ⟨[.list [.int .i64],.int .i64,.int .i64,.list [.int .i64],.list [.int .u8]],[(0,.ptr 0 0),(2,.sc (.list [.int .i64])),(8,.full 1)],[.box [.full 2,.sc (.int .i64),.sc (.int .i64)],.arr [.int .i64],.arr [.int .u8]]⟩ .u))) .u))))) ZbA.S d=ZbA.S.F d:=fun _=>by kernel_rfl
theorem ZbA.sound:Zah Tryz.prog C0 241 ZbA.S:=sE Zbf ZbA.ev (Zaj ⟨ZdG.sound,ZaH.sound,Zcv.sound,Za4.sound,Za5.sound,ZlW.sound,Zeu.sound,trivial⟩) Tryz.func241
def ZdS.S:ZaT:=⟨0,[.sc .str],[],[.str],⟨[.str],.sc .str,[]⟩,
 fun (text:Str)=>ZdS text⟩
theorem ZdS.ev:∀d,Zbb C0 (hnd (tab [(239,ZdG.S),(240,Zdf.S)])) Tryz.f223 .u ZdS.S d=ZdS.S.F d:=fun _=>by kernel_rfl
theorem ZdS.sound:Zah Tryz.prog C0 223 ZdS.S:=sE Zbf ZdS.ev (Zaj ⟨ZdG.sound,Zdf.sound,trivial⟩) Tryz.func223
def ZdT.S:ZaT:=⟨0,[.sc .str],[],[.str],⟨[.str],.sc .str,[]⟩,
 fun (text:Str)=>ZdT text⟩
theorem ZdT.ev:∀d,Zbb C0 (hnd (tab [(239,ZdG.S),(240,Zdf.S),(241,ZbA.S),(242,ZaF.S),(243,ZcA.S),(244,ZcB.S)])) Tryz.f224 .u ZdT.S d=ZdT.S.F d:=fun _=>by kernel_rfl
theorem ZdT.sound:Zah Tryz.prog C0 224 ZdT.S:=sE Zbf ZdT.ev (Zaj ⟨ZdG.sound,Zdf.sound,ZbA.sound,ZaF.sound,ZcA.sound,ZcB.sound,trivial⟩) Tryz.func224
def Zbq.S:ZaT:=⟨0,[.sc (.list [.int .i64,.int .i64,.int .i64])],[],[.list [.int .i64,.int .i64,.int .i64]],⟨[.list [.int .i64],.list [.int .i64]],.tup [.full 0,.full 1],[.arr [.int .i64],.arr [.int .i64]]⟩,
 fun (list:List (Int×Int×Int))=>Zbq list⟩
theorem Zbq.ev:∀d,Zbb C0 (hnd (tab [(265,Zcv.S),(266,Za4.S),(267,Za5.S),(269,Zeu.S),(271,Zcj.S)])) Tryz.f245 (.seq .u (.seq .u (.seq .u (.seq .u (.seq .u (.seq .u (.seq (.seq .u (.blk (.loop ⟨[.list [.int .i64,.int .i64,.int .i64],.int .i64,.list [.int .i64],.list [.int .i64],.list [.int .i64],.list [.int .i64]],[(0,.sc (.list [.int .i64,.int .i64,.int .i64])),(4,.full 0),(5,.full 1),(6,.full 2),(7,.full 3),(8,.sc (.int .i64))],[.arr [.int .i64],.arr [.int .i64],.arr [.int .i64],.arr [.int .i64]]⟩ (fun ((list1,i,longs,backs,long,back):(List (Int×Int×Int))×Int×List Int×List Int×List Int×List Int)=>((list1.length:Int)-i).toNat+1) 0 ⟨[.list [.int .i64],.list [.int .i64]],[(4,.full 0),(5,.full 1)],[.arr [.int .i64],.arr [.int .i64]]⟩ .u))) .u))))))) Zbq.S d=Zbq.S.F d:=fun _=>by kernel_rfl
theorem Zbq.sound:Zah Tryz.prog C0 245 Zbq.S:=sE Zbf Zbq.ev (Zaj ⟨Zcv.sound,Za4.sound,Za5.sound,Zeu.sound,Zcj.sound,trivial⟩) Tryz.func245
def Zce.S:ZaT:=⟨0,[.sc (.list [.int .i64]),.sc (.int .i64)],[],[.list [.int .i64],.int .i64],⟨[.list [.int .i64]],.sc (.list [.int .i64]),[]⟩,
 fun ((lens,least_):List Int×Int)=>Zce lens least_⟩
theorem Zce.ev:∀d,Zbb C0 (hnd (tab [])) Tryz.f246 (.seq .u (.seq .u (.seq (.blk (.loop ⟨[.list [.int .i64],.int .i64,.int .i64],[(0,.sc (.list [.int .i64])),(1,.sc (.int .i64)),(5,.sc (.int .i64))],[]⟩ (fun ((lens1,least_1,n):List Int×Int×Int)=>(n-least_1).toNat+1) 0 ⟨[.list [.int .i64],.int .i64],[(0,.sc (.list [.int .i64])),(5,.sc (.int .i64))],[]⟩ (.seq (.seq (.reg [.bool] [(18,.sc .bool)]) .u) .u))) .u))) Zce.S d=Zce.S.F d:=fun _=>by kernel_rfl
theorem Zce.sound:Zah Tryz.prog C0 246 Zce.S:=sE Zbf Zce.ev (Zaj trivial) Tryz.func246
def Zc4.S:ZaT:=⟨0,[],[],[],⟨[.list [.int .i64]],.full 0,[.arr [.int .i64]]⟩,
 fun (_:Unit)=>Zc4⟩
theorem Zc4.ev:∀d,Zbb C0 (hnd (tab [])) Tryz.f274 .u Zc4.S d=Zc4.S.F d:=fun _=>by kernel_rfl
theorem Zc4.sound:Zah Tryz.prog C0 274 Zc4.S:=sE Zbf Zc4.ev (Zaj trivial) Tryz.func274
end Ev
end
section
open Go Go.Proofs
set_option maxRecDepth 100000
namespace Ev
set_option maxHeartbeats 1000000
def ZbX.S:ZaT:=⟨1,[.ptr 0 0,.sc (.list [.int .i64]),.sc (.list [.int .i64])],[.box [.full 1,.sc (.int .i64),.sc (.int .i64)],.arr [.int .u8]],[.list [.int .i64],.list [.int .i64],.int .i64,.int .i64,.list [.int .u8]],⟨[.int .i64,.int .i64,.list [.int .u8]],.tup [],[.box [.full 1,.sc (.int .i64),.sc (.int .i64)],.arr [.int .u8]]⟩,
 fun ((longs,backs,last,fill,text):List Int×List Int×Int×Int×List Int)=>ZbX longs backs last fill text⟩
theorem ZbX.ev:∀d,Zbb C0 (hnd (tab [(239,ZdG.S),(247,Zcw.S),(264,ZaH.S),(268,ZlW.S),(274,Zc4.S)])) Tryz.f248 (.seq .u (.seq .u (.seq (.seq .u (.blk (.loop ⟨[.list [.int .i64],.list [.int .i64],.int .i64,.int .i64,.int .i64,.list [.int .i64],.list [.int .i64],.list [.int .u8]],[(0,.ptr 0 0),(1,.sc (.list [.int .i64])),(2,.sc (.list [.int .i64])),(6,.full 1),(7,.full 2),(8,.sc (.int .i64))],[.box [.full 3,.sc (.int .i64),.sc (.int .i64)],.arr [.int .i64],.arr [.int .i64],.arr [.int .u8]]⟩ (fun ((longs1,backs1,i,o,o1,all,counts,o2):List Int×List Int×Int×Int×Int×List Int×List Int×List Int)=>((all.length:Int)-i).toNat+1) 0 ⟨[.list [.int .i64],.list [.int .i64],.int .i64,.int .i64,.list [.int .i64],.list [.int .i64],.list [.int .u8]],[(0,.ptr 0 0),(1,.sc (.list [.int .i64])),(2,.sc (.list [.int .i64])),(6,.full 1),(7,.full 2)],[.box [.full 3,.sc (.int .i64),.sc (.int .i64)],.arr [.int .i64],.arr [.int .i64],.arr [.int .u8]]⟩ .u))) (.seq .u (.seq .u (.seq .u (.seq .u (.seq .u (.seq (.seq .u (.blk (.loop ⟨[.int .i64,.int .i64,.int .i64,.list [.int .i64],.list [.int .i64],.list [.int .i64],.list [.int .u8]],[(0,.ptr 0 0),(6,.full 1),(9,.full 2),(10,.full 3),(11,.sc (.int .i64))],[.box [.full 4,.sc (.int .i64),.sc (.int .i64)],.arr [.int .i64],.arr [.int .i64],.arr [.int .i64],.arr [.int .u8]]⟩ (fun ((i1,o6,o7,all2,lens,codes_,o8):Int×Int×Int×List Int×List Int×List Int×List Int)=>(19-i1).toNat+1) 2 ⟨[.int .i64,.int .i64,.list [.int .i64],.list [.int .i64],.list [.int .i64],.list [.int .u8]],[(0,.ptr 0 0),(6,.full 1),(9,.full 2),(10,.full 3)],[.box [.full 4,.sc (.int .i64),.sc (.int .i64)],.arr [.int .i64],.arr [.int .i64],.arr [.int .i64],.arr [.int .u8]]⟩ .u))) (.seq .u (.blk (.loop ⟨[.int .i64,.int .i64,.int .i64,.list [.int .i64],.list [.int .i64],.list [.int .i64],.list [.int .u8]],[(0,.ptr 0 0),(6,.full 1),(9,.full 2),(10,.full 3),(12,.sc (.int .i64))],[.box [.full 4,.sc (.int .i64),.sc (.int .i64)],.arr [.int .i64],.arr [.int .i64],.arr [.int .i64],.arr [.int .u8]]⟩ (fun ((i2,o12,o13,all4,lens2,codes_2,o14):Int×Int×Int×List Int×List Int×List Int×List Int)=>((all4.length:Int)-i2).toNat+1) 4 ⟨[.int .i64,.int .i64,.list [.int .u8]],[],[.box [.full 1,.sc (.int .i64),.sc (.int .i64)],.arr [.int .u8]]⟩ .u)))))))))))) ZbX.S d=ZbX.S.F d:=fun _=>by kernel_rfl
theorem ZbX.sound:Zah Tryz.prog C0 248 ZbX.S:=sE Zbf ZbX.ev (Zaj ⟨ZdG.sound,Zcw.sound,ZaH.sound,ZlW.sound,Zc4.sound,trivial⟩) Tryz.func248
def Zib.S:ZaT:=⟨0,[.sc .str],[],[.str],⟨[.str],.sc .str,[]⟩,
 fun (text:Str)=>Zib text⟩
theorem Zib.ev:∀d,Zbb C0 (hnd (tab [(239,ZdG.S),(240,Zdf.S),(241,ZbA.S),(242,ZaF.S),(245,Zbq.S),(246,Zce.S),(247,Zcw.S),(248,ZbX.S)])) Tryz.f225 .u Zib.S d=Zib.S.F d:=fun _=>by kernel_rfl
theorem Zib.sound:Zah Tryz.prog C0 225 Zib.S:=sE Zbf Zib.ev (Zaj ⟨ZdG.sound,Zdf.sound,ZbA.sound,ZaF.sound,Zbq.sound,Zce.sound,Zcw.sound,ZbX.sound,trivial⟩) Tryz.func225
def Zao.S:ZaT:=⟨0,[.sc .str],[],[.str],⟨[.str],.sc .str,[]⟩,
 fun (text:Str)=>Zao text⟩
theorem Zao.ev:∀d,Zbb C0 (hnd (tab [(223,ZdS.S),(224,ZdT.S),(225,Zib.S)])) Tryz.f194 (.seq .u (.seq .u (.seq .u (.seq .u (.seq (.seq .u (.blk (.loop ⟨[.str,.int .i64,.list [.str]],[(3,.sc .str),(4,.full 0),(5,.sc (.int .i64))],[.arr [.str]]⟩ (fun ((out,i,list):Str×Int×List Str)=>((list.length:Int)-i).toNat+1) 0 ⟨[.str],[(3,.sc .str)],[]⟩ .u))) .u))))) Zao.S d=Zao.S.F d:=fun _=>by kernel_rfl
theorem Zao.sound:Zah Tryz.prog C0 194 Zao.S:=sE Zbf Zao.ev (Zaj ⟨ZdS.sound,ZdT.sound,Zib.sound,trivial⟩) Tryz.func194
def ZbD.S:ZaT:=⟨1,[.ptr 0 0,.full 1],[.box [.sc .str,.sc (.int .i64),.sc .bool],.arr [.int .u8]],[.str,.int .i64,.bool,.list [.int .u8]],⟨[.str,.int .i64,.bool,.list [.int .u8]],.full 1,[.box [.sc .str,.sc (.int .i64),.sc .bool],.arr [.int .u8]]⟩,
 fun ((s,at_,bad,text):Str×Int×Bool×List Int)=>ZbD s at_ bad text⟩
theorem ZbD.ev:∀d,Zbb C0 (hnd (tab [(238,Zct.S),(259,ZeA.S)])) Tryz.f260 (.seq .u (.join ⟨[.str,.int .i64,.bool,.list [.int .u8]],[(0,.ptr 0 0),(1,.full 1)],[.box [.sc .str,.sc (.int .i64),.sc .bool],.arr [.int .u8]]⟩ .u (.seq .u (.join ⟨[.int .i64,.str,.int .i64,.bool,.list [.int .u8]],[(0,.ptr 0 0),(1,.full 1),(5,.sc (.int .i64))],[.box [.sc .str,.sc (.int .i64),.sc .bool],.arr [.int .u8]]⟩ .u (.seq (.seq .u (.blk (.loop ⟨[.int .i64,.int .i64,.str,.int .i64,.bool,.list [.int .u8]],[(0,.ptr 0 0),(1,.full 1),(5,.sc (.int .i64)),(6,.sc (.int .i64))],[.box [.sc .str,.sc (.int .i64),.sc .bool],.arr [.int .u8]]⟩ (fun ((n1,i,o6,o7,o8,text3):Int×Int×Str×Int×Bool×List Int)=>(n1-i).toNat+1) 0 ⟨[.str,.int .i64,.bool,.list [.int .u8]],[(1,.full 1)],[.box [.sc .str,.sc (.int .i64),.sc .bool],.arr [.int .u8]]⟩ (.seq (.seq (.reg [.bool] [(36,.sc .bool)]) .u) .u)))) .u))))) ZbD.S d=ZbD.S.F d:=fun _=>by kernel_rfl
theorem ZbD.sound:Zah Tryz.prog C0 260 ZbD.S:=sE Zbf ZbD.ev (Zaj ⟨Zct.sound,ZeA.sound,trivial⟩) Tryz.func260
def Zfj.S:ZaT:=⟨1,[.ptr 0 0,.full 1,.sc (.int .i64),.sc (.list [.int .i64]),.sc (.list [.int .i64])],[.box [.sc .str,.sc (.int .i64),.sc .bool],.arr [.int .u8]],[.int .i64,.list [.int .i64],.list [.int .i64],.str,.int .i64,.bool,.list [.int .u8]],⟨[.str,.int .i64,.bool,.list [.int .u8]],.full 1,[.box [.sc .str,.sc (.int .i64),.sc .bool],.arr [.int .u8]]⟩,
 fun ((sym,backs,codes_,s,at_,bad,text):Int×List Int×List Int×Str×Int×Bool×List Int)=>Zfj sym backs codes_ s at_ bad text⟩
theorem Zfj.ev:∀d,Zbb C0 (hnd (tab [(259,ZeA.S),(265,Zcv.S),(266,Za4.S),(267,Za5.S),(277,ZaO.S),(284,Zee.S)])) Tryz.f278 (.seq .u (.seq .u (.seq .u (.seq (.cm [(2,[0]),(3,[0]),(4,[0])]) (.seq .u (.seq .u (.seq (.cm [(2,[0]),(3,[0]),(4,[0])]) .u))))))) Zfj.S d=Zfj.S.F d:=fun _=>by kernel_rfl
theorem Zfj.sound:Zah Tryz.prog C0 278 Zfj.S:=sE Zbf Zfj.ev (Zaj ⟨ZeA.sound,Zcv.sound,Za4.sound,Za5.sound,ZaO.sound,Zee.sound,trivial⟩) Tryz.func278
def ZbN.S:ZaT:=⟨1,[.ptr 0 0,.full 1,.sc (.list [.int .i64]),.sc (.list [.int .i64])],[.box [.sc .str,.sc (.int .i64),.sc .bool],.arr [.int .u8]],[.list [.int .i64],.list [.int .i64],.str,.int .i64,.bool,.list [.int .u8]],⟨[.str,.int .i64,.bool,.list [.int .u8]],.full 1,[.box [.sc .str,.sc (.int .i64),.sc .bool],.arr [.int .u8]]⟩,
 fun ((longs,backs,s,at_,bad,text):List Int×List Int×Str×Int×Bool×List Int)=>ZbN longs backs s at_ bad text⟩
theorem ZbN.ev:∀d,Zbb C0 (hnd (tab [(264,ZaH.S),(277,ZaO.S),(278,Zfj.S)])) Tryz.f261 (.seq .u (.seq .u (.seq .u (.seq (.blk (.loopS ⟨[.list [.int .i64],.list [.int .i64],.str,.int .i64,.bool,.list [.int .u8],.list [.int .i64],.list [.int .i64]],[(0,.ptr 0 0),(1,.full 1),(2,.sc (.list [.int .i64])),(3,.sc (.list [.int .i64])),(9,.full 2),(10,.full 3)],[.box [.sc .str,.sc (.int .i64),.sc .bool],.arr [.int .u8],.arr [.int .i64],.arr [.int .i64]]⟩ (fun ((longs1,backs1,o,o1,o2,text1,a,b):List Int×List Int×Str×Int×Bool×List Int×List Int×List Int)=>100000) 0 ⟨[.str,.int .i64,.bool,.list [.int .u8]],[(0,.ptr 0 0),(1,.full 1)],[.box [.sc .str,.sc (.int .i64),.sc .bool],.arr [.int .u8]]⟩ (.seq (.seq (.reg [.bool] [(25,.sc .bool)]) .u) (.blk (.seq .u (.blk (.seq (.reg [.bool] [(36,.sc .bool)]) .u))))))) .u)))) ZbN.S d=ZbN.S.F d:=fun _=>by kernel_rfl
theorem ZbN.sound:Zah Tryz.prog C0 261 ZbN.S:=sE Zbf ZbN.ev (Zaj ⟨ZaH.sound,ZaO.sound,Zfj.sound,trivial⟩) Tryz.func261
def Zdr.S:ZaT:=⟨1,[.ptr 0 0,.full 1,.sc (.int .i64)],[.box [.sc .str,.sc (.int .i64),.sc .bool],.arr [.int .i64]],[.int .i64,.str,.int .i64,.bool,.list [.int .i64]],⟨[.str,.int .i64,.bool,.list [.int .i64]],.full 1,[.box [.sc .str,.sc (.int .i64),.sc .bool],.arr [.int .i64]]⟩,
 fun ((sym,s,at_,bad,out):Int×Str×Int×Bool×List Int)=>Zdr sym s at_ bad out⟩
theorem Zdr.ev:∀d,Zbb C0 (hnd (tab [(259,ZeA.S)])) Tryz.f280 (.seq .u (.seq .u (.seq .u (.join ⟨[.int .i64,.int .i64,.str,.int .i64,.bool,.list [.int .i64]],[(0,.ptr 0 0),(1,.full 1),(7,.sc (.int .i64)),(8,.sc (.int .i64))],[.box [.sc .str,.sc (.int .i64),.sc .bool],.arr [.int .i64]]⟩ (.blk (.seq (.reg [.bool] [(11,.sc .bool)]) .u)) (.seq (.seq .u (.blk (.loop ⟨[.int .i64,.int .i64,.int .i64,.str,.int .i64,.bool,.list [.int .i64]],[(0,.ptr 0 0),(1,.full 1),(7,.sc (.int .i64)),(8,.sc (.int .i64)),(9,.sc (.int .i64))],[.box [.sc .str,.sc (.int .i64),.sc .bool],.arr [.int .i64]]⟩ (fun ((last1,n1,i,o3,o4,o5,out2):Int×Int×Int×Str×Int×Bool×List Int)=>(n1-i).toNat+1) 1 ⟨[.str,.int .i64,.bool,.list [.int .i64]],[(1,.full 1)],[.box [.sc .str,.sc (.int .i64),.sc .bool],.arr [.int .i64]]⟩ (.seq (.seq (.reg [.bool] [(55,.sc .bool)]) .u) .u)))) .u))))) Zdr.S d=Zdr.S.F d:=fun _=>by kernel_rfl
theorem Zdr.sound:Zah Tryz.prog C0 280 Zdr.S:=sE Zbf Zdr.ev (Zaj ⟨ZeA.sound,trivial⟩) Tryz.func280
def Zcz.S:ZaT:=⟨1,[.ptr 0 0],[.box [.sc .str,.sc (.int .i64),.sc .bool]],[.str,.int .i64,.bool],⟨[.list [.int .i64],.list [.int .i64],.str,.int .i64,.bool],.tup [.sc (.list [.int .i64]),.sc (.list [.int .i64])],[.box [.sc .str,.sc (.int .i64),.sc .bool]]⟩,
 fun ((s,at_,bad):Str×Int×Bool)=>Zcz s at_ bad⟩
theorem Zcz.ev:∀d,Zbb C0 (hnd (tab [(259,ZeA.S),(264,ZaH.S),(274,Zc4.S),(277,ZaO.S),(279,ZaK.S),(280,Zdr.S)])) Tryz.f262 (.seq .u (.seq .u (.seq .u (.seq .u (.seq .u (.seq (.seq .u (.blk (.loop ⟨[.int .i64,.int .i64,.int .i64,.int .i64,.str,.int .i64,.bool,.list [.int .i64]],[(0,.ptr 0 0),(4,.sc (.int .i64)),(5,.sc (.int .i64)),(6,.sc (.int .i64)),(7,.full 1),(8,.sc (.int .i64))],[.box [.sc .str,.sc (.int .i64),.sc .bool],.arr [.int .i64]]⟩ (fun ((long,back,n,i,o,o1,o2,lens):Int×Int×Int×Int×Str×Int×Bool×List Int)=>(n-i).toNat+1) 0 ⟨[.int .i64,.int .i64,.str,.int .i64,.bool,.list [.int .i64]],[(0,.ptr 0 0),(4,.sc (.int .i64)),(5,.sc (.int .i64)),(7,.full 1)],[.box [.sc .str,.sc (.int .i64),.sc .bool],.arr [.int .i64]]⟩ (.seq .u (.seq (.blk (.cm [(0,[0]),(2,[0]),(3,[0]),(4,[0])])) .u))))) (.seq (.seq (.reg [.bool] [(44,.sc .bool)]) .u) (.seq .u (.seq .u (.seq (.blk (.loop ⟨[.int .i64,.int .i64,.str,.int .i64,.bool,.list [.int .i64],.list [.int .i64],.list [.int .i64]],[(0,.ptr 0 0),(4,.sc (.int .i64)),(5,.sc (.int .i64)),(7,.full 1),(9,.full 2),(10,.full 3)],[.box [.sc .str,.sc (.int .i64),.sc .bool],.arr [.int .i64],.arr [.int .i64],.arr [.int .i64]]⟩ (fun ((long2,back2,o6,o7,o8,lens2,codes_,all):Int×Int×Str×Int×Bool×List Int×List Int×List Int)=>((w64 (long2+back2))-(all.length:Int)).toNat+1) 2 ⟨[.int .i64,.int .i64,.str,.int .i64,.bool,.list [.int .i64]],[(0,.ptr 0 0),(4,.sc (.int .i64)),(5,.sc (.int .i64)),(10,.full 1)],[.box [.sc .str,.sc (.int .i64),.sc .bool],.arr [.int .i64]]⟩ (.seq (.seq (.reg [.bool] [(65,.sc .bool)]) .u) .u))) (.seq (.seq (.reg [.bool] [(98,.sc .bool)]) .u) .u))))))))))) Zcz.S d=Zcz.S.F d:=fun _=>by kernel_rfl
theorem Zcz.sound:Zah Tryz.prog C0 262 Zcz.S:=sE Zbf Zcz.ev (Zaj ⟨ZeA.sound,ZaH.sound,Zc4.sound,ZaO.sound,ZaK.sound,Zdr.sound,trivial⟩) Tryz.func262
def ZhX.S:ZaT:=⟨1,[.ptr 0 0,.full 1],[.box [.sc .str,.sc (.int .i64),.sc .bool],.arr [.int .u8]],[.str,.int .i64,.bool,.list [.int .u8]],⟨[.bool,.str,.int .i64,.bool,.list [.int .u8]],.tup [.full 1,.sc .bool],[.box [.sc .str,.sc (.int .i64),.sc .bool],.arr [.int .u8]]⟩,
 fun ((s,at_,bad,text):Str×Int×Bool×List Int)=>ZhX s at_ bad text⟩
theorem ZhX.ev:∀d,Zbb C0 (hnd (tab [(243,ZcA.S),(244,ZcB.S),(258,ZiN.S),(259,ZeA.S),(260,ZbD.S),(261,ZbN.S),(262,Zcz.S)])) Tryz.f237 .u ZhX.S d=ZhX.S.F d:=fun _=>by kernel_rfl
theorem ZhX.sound:Zah Tryz.prog C0 237 ZhX.S:=sE Zbf ZhX.ev (Zaj ⟨ZcA.sound,ZcB.sound,ZiN.sound,ZeA.sound,ZbD.sound,ZbN.sound,Zcz.sound,trivial⟩) Tryz.func237
def Zd0.S:ZaT:=⟨0,[.sc .str],[],[.str],⟨[.str,.int .i64,.bool],.tup [.sc .str,.sc (.int .i64),.sc .bool],[]⟩,
 fun (text:Str)=>Zd0 text⟩
theorem Zd0.ev:∀d,Zbb C0 (hnd (tab [(237,ZhX.S),(238,Zct.S)])) Tryz.f220 (.seq .u (.seq .u (.seq .u (.seq .u (.seq (.blk (.loop ⟨[.bool,.str,.int .i64,.bool,.list [.int .u8]],[(5,.ptr 0 0),(6,.full 1),(7,.sc .bool)],[.box [.sc .str,.sc (.int .i64),.sc .bool],.arr [.int .u8]]⟩ (fun ((last,o,o1,o2,out):Bool×Str×Int×Bool×List Int)=>100000) 0 ⟨[.str,.int .i64,.bool,.list [.int .u8]],[(5,.ptr 0 0),(6,.full 1)],[.box [.sc .str,.sc (.int .i64),.sc .bool],.arr [.int .u8]]⟩ (.seq (.seq (.reg [.bool] [(23,.sc .bool)]) .u) .u))) (.seq .u (.seq (.seq (.reg [.bool] [(46,.sc .bool)]) .u) .u))))))) Zd0.S d=Zd0.S.F d:=fun _=>by kernel_rfl
theorem Zd0.sound:Zah Tryz.prog C0 220 Zd0.S:=sE Zbf Zd0.ev (Zaj ⟨ZhX.sound,Zct.sound,trivial⟩) Tryz.func220
def Zbl.S:ZaT:=⟨0,[.sc .str],[],[.str],⟨[.str,.int .i64,.bool],.tup [.sc .str,.sc (.int .i64),.sc .bool],[]⟩,
 fun (text:Str)=>Zbl text⟩
theorem Zbl.ev:∀d,Zbb C0 (hnd (tab [(220,Zd0.S)])) Tryz.f186 .u Zbl.S d=Zbl.S.F d:=fun _=>by kernel_rfl
theorem Zbl.sound:Zah Tryz.prog C0 186 Zbl.S:=sE Zbf Zbl.ev (Zaj ⟨Zd0.sound,trivial⟩) Tryz.func186
def ZfT.S:ZaT:=⟨0,[.sc (.int .i64),.sc (.int .i64)],[],[.int .i64,.int .i64],⟨[.int .i64],.sc (.int .i64),[]⟩,
 fun ((year,month):Int×Int)=>ZfT year month⟩
theorem ZfT.ev:∀d,Zbb C0 (hnd (tab [])) Tryz.f149 (.seq .u (.seq (.seq .u (.blk (.join ⟨[.int .i64,.int .i64,.bool],[(0,.sc (.int .i64)),(5,.sc (.int .i64)),(6,.sc .bool)],[]⟩ .u (.cond .u (.seq .u (.cond (.seq (.seq (.reg [.bool] [(25,.sc .bool)]) .u) .u) .u)))))) .u)) ZfT.S d=ZfT.S.F d:=fun _=>by kernel_rfl
theorem ZfT.sound:Zah Tryz.prog C0 149 ZfT.S:=sE Zbf ZfT.ev (Zaj trivial) Tryz.func149
def ZbH.S:ZaT:=⟨0,[.agg [.sc (.int .i64),.sc (.int .i64),.sc (.int .i64),.sc (.int .i64),.sc (.int .i64),.sc (.int .i64)]],[],[.int .i64,.int .i64,.int .i64,.int .i64,.int .i64,.int .i64],⟨[.bool],.sc .bool,[]⟩,
 fun ((y,mo,d,h,mi,sec):Int×Int×Int×Int×Int×Int)=>ZbH y mo d h mi sec⟩
theorem ZbH.ev:∀d,Zbb C0 (hnd (tab [(116,ZgA.S),(149,ZfT.S)])) Tryz.f106 (.seq .u (.seq (.reg [.bool] [(3,.sc .bool)]) (.seq (.reg [.bool] [(2,.sc .bool)]) .u))) ZbH.S d=ZbH.S.F d:=fun _=>by kernel_rfl
theorem ZbH.sound:Zah Tryz.prog C0 106 ZbH.S:=sE Zbf ZbH.ev (Zaj ⟨ZgA.sound,ZfT.sound,trivial⟩) Tryz.func106
def Zh9.S:ZaT:=⟨0,[.agg [.sc (.int .i64),.sc (.int .i64),.sc (.int .i64),.sc (.int .i64),.sc (.int .i64),.sc (.int .i64)]],[],[.int .i64,.int .i64,.int .i64,.int .i64,.int .i64,.int .i64],⟨[.int .i64],.sc (.int .i64),[]⟩,
 fun ((y,mo,d,h,mi,sec):Int×Int×Int×Int×Int×Int)=>Zh9 y mo d h mi sec⟩
theorem Zh9.ev:∀d,Zbb C0 (hnd (tab [])) Tryz.f193 .u Zh9.S d=Zh9.S.F d:=fun _=>by kernel_rfl
theorem Zh9.sound:Zah Tryz.prog C0 193 Zh9.S:=sE Zbf Zh9.ev (Zaj trivial) Tryz.func193
def Zia.S:ZaT:=⟨0,[.sc (.int .i64)],[],[.int .i64],⟨[.int .i64,.int .i64,.int .i64,.int .i64,.int .i64,.int .i64],.agg [.sc (.int .i64),.sc (.int .i64),.sc (.int .i64),.sc (.int .i64),.sc (.int .i64),.sc (.int .i64)],[]⟩,
 fun (n:Int)=>Zia n⟩
theorem Zia.ev:∀d,Zbb C0 (hnd (tab [])) Tryz.f153 .u Zia.S d=Zia.S.F d:=fun _=>by kernel_rfl
theorem Zia.sound:Zah Tryz.prog C0 153 Zia.S:=sE Zbf Zia.ev (Zaj trivial) Tryz.func153
def ZaX.S:ZaT:=⟨0,[.agg [.sc .str,.sc (.int .i64),.sc (.int .i64),.sc (.int .i64),.sc (.int .i64),.sc (.int .i64),.sc (.int .i64),.sc .str]],[],[.str,.int .i64,.int .i64,.int .i64,.int .i64,.int .i64,.int .i64,.str],⟨[.bool],.sc .bool,[]⟩,
 fun ((name,y,mo,d,h,mi,sec,text):Str×Int×Int×Int×Int×Int×Int×Str)=>ZaX name y mo d h mi sec text⟩
theorem ZaX.ev:∀d,Zbb C0 (hnd (tab [(94,Zar.S),(106,ZbH.S)])) Tryz.f100 (.seq .u (.seq (.reg [.bool] [(2,.sc .bool)]) .u)) ZaX.S d=ZaX.S.F d:=fun _=>by kernel_rfl
theorem ZaX.sound:Zah Tryz.prog C0 100 ZaX.S:=sE Zbf ZaX.ev (Zaj ⟨Zar.sound,ZbH.sound,trivial⟩) Tryz.func100
def Zau.S:ZaT:=⟨0,[.sc (.int .i64),.sc (.int .i64)],[],[.int .i64,.int .i64],⟨[.str],.sc .str,[]⟩,
 fun ((n,many):Int×Int)=>Zau n many⟩
theorem Zau.ev:∀d,Zbb C0 (hnd (tab [])) Tryz.f152 (.seq .u (.seq .u (.seq (.seq .u (.blk (.loop ⟨[.int .i64,.int .i64,.int .i64,.list [.int .u8]],[(0,.sc (.int .i64)),(1,.sc (.int .i64)),(5,.full 0),(6,.sc (.int .i64))],[.arr [.int .u8]]⟩ (fun ((n1,many1,i,out):Int×Int×Int×List Int)=>(many1-i).toNat+1) 0 ⟨[.list [.int .u8]],[(5,.full 0)],[.arr [.int .u8]]⟩ .u))) .u))) Zau.S d=Zau.S.F d:=fun _=>by kernel_rfl
theorem Zau.sound:Zah Tryz.prog C0 152 Zau.S:=sE Zbf Zau.ev (Zaj trivial) Tryz.func152
def ZbR.S:ZaT:=⟨0,[.sc .str,.sc (.int .i64),.sc (.int .i64)],[],[.str,.int .i64,.int .i64],⟨[.int .i64],.sc (.int .i64),[]⟩,
 fun ((s,at_,many):Str×Int×Int)=>ZbR s at_ many⟩
theorem ZbR.ev:∀d,Zbb C0 (hnd (tab [])) Tryz.f115 (.seq .u (.seq .u (.seq (.seq (.reg [.bool] [(18,.sc .bool)]) .u) (.seq (.seq .u (.blk (.loop ⟨[.str,.int .i64,.int .i64,.int .i64],[(0,.sc .str),(1,.sc (.int .i64)),(7,.sc (.int .i64)),(8,.sc (.int .i64))],[]⟩ (fun ((s1,at_1,n,i):Str×Int×Int×Int)=>(i-0).toNat+2) 0 ⟨[.int .i64],[(7,.sc (.int .i64))],[]⟩ .u))) .u)))) ZbR.S d=ZbR.S.F d:=fun _=>by kernel_rfl
theorem ZbR.sound:Zah Tryz.prog C0 115 ZbR.S:=sE Zbf ZbR.ev (Zaj trivial) Tryz.func115
def Zgz.S:ZaT:=⟨0,[.sc .str],[],[.str],⟨[.int .i64,.str],.tup [.sc (.int .i64),.sc .str],[]⟩,
 fun (text:Str)=>Zgz text⟩
theorem Zgz.ev:∀d,Zbb C0 (hnd (tab [(194,Zao.S)])) Tryz.f167 .u Zgz.S d=Zgz.S.F d:=fun _=>by kernel_rfl
theorem Zgz.sound:Zah Tryz.prog C0 167 Zgz.S:=sE Zbf Zgz.ev (Zaj ⟨Zao.sound,trivial⟩) Tryz.func167
def Zco.S:ZaT:=⟨0,[.agg [.sc .str,.sc (.int .i64),.sc (.int .i64),.sc (.int .i64),.sc (.int .i64),.sc (.int .i64),.sc (.int .i64),.sc .str]],[],[.str,.int .i64,.int .i64,.int .i64,.int .i64,.int .i64,.int .i64,.str],⟨[.str],.sc .str,[]⟩,
 fun ((name,y,mo,d,h,mi,sec,text):Str×Int×Int×Int×Int×Int×Int×Str)=>Zco name y mo d h mi sec text⟩
theorem Zco.ev:∀d,Zbb C0 (hnd (tab [(152,Zau.S),(155,Zc3.S),(167,Zgz.S),(193,Zh9.S)])) Tryz.f166 .u Zco.S d=Zco.S.F d:=fun _=>by kernel_rfl
theorem Zco.sound:Zah Tryz.prog C0 166 Zco.S:=sE Zbf Zco.ev (Zaj ⟨Zau.sound,Zc3.sound,Zgz.sound,Zh9.sound,trivial⟩) Tryz.func166
def ZdR.S:ZaT:=⟨0,[.agg [.sc .str,.sc (.int .i64),.sc (.int .i64),.sc (.int .i64),.sc (.int .i64),.sc (.int .i64),.sc (.int .i64),.sc .str]],[],[.str,.int .i64,.int .i64,.int .i64,.int .i64,.int .i64,.int .i64,.str],⟨[.str],.sc .str,[]⟩,
 fun ((name,y,mo,d,h,mi,sec,text):Str×Int×Int×Int×Int×Int×Int×Str)=>ZdR name y mo d h mi sec text⟩
theorem ZdR.ev:∀d,Zbb C0 (hnd (tab [(152,Zau.S),(166,Zco.S),(167,Zgz.S)])) Tryz.f127 .u ZdR.S d=ZdR.S.F d:=fun _=>by kernel_rfl
theorem ZdR.sound:Zah Tryz.prog C0 127 ZdR.S:=sE Zbf ZdR.ev (Zaj ⟨Zau.sound,Zco.sound,Zgz.sound,trivial⟩) Tryz.func127
def Zfo.S:ZaT:=⟨0,[.sc (.int .i64),.sc .str],[],[.int .i64,.str],⟨[.str,.bool],.tup [.sc .str,.sc .bool],[]⟩,
 fun ((how,packed):Int×Str)=>Zfo how packed⟩
theorem Zfo.ev:∀d,Zbb C0 (hnd (tab [(186,Zbl.S)])) Tryz.f154 (.seq .u (.seq .u (.seq .u (.seq (.reg [.str,.bool] [(4,.sc .str),(5,.sc .bool)]) .u)))) Zfo.S d=Zfo.S.F d:=fun _=>by kernel_rfl
theorem Zfo.sound:Zah Tryz.prog C0 154 Zfo.S:=sE Zbf Zfo.ev (Zaj ⟨Zbl.sound,trivial⟩) Tryz.func154
def Zd4.S:ZaT:=⟨0,[.sc .str],[],[.str],⟨[.str,.int .i64,.int .i64,.int .i64,.int .i64,.int .i64,.int .i64,.str,.int .i64,.bool],.tup [.agg [.sc .str,.sc (.int .i64),.sc (.int .i64),.sc (.int .i64),.sc (.int .i64),.sc (.int .i64),.sc (.int .i64),.sc .str],.sc (.int .i64),.sc .bool],[]⟩,
 fun (text:Str)=>Zd4 text⟩
theorem Zd4.ev:∀d,Zbb C0 (hnd (tab [(100,ZaX.S),(115,ZbR.S),(153,Zia.S),(154,Zfo.S),(155,Zc3.S)])) Tryz.f120 (.seq .u (.seq .u (.seq .u (.seq (.reg [.bool] [(7,.sc .bool)]) (.seq (.seq (.reg [.bool] [(51,.sc .bool)]) .u) (.seq .u (.seq .u (.seq .u (.seq (.reg [.bool] [(10,.sc .bool)]) (.seq (.cm [(1,[0]),(2,[0]),(3,[0]),(4,[0]),(9,[0])]) .u)))))))))) Zd4.S d=Zd4.S.F d:=fun _=>by kernel_rfl
theorem Zd4.sound:Zah Tryz.prog C0 120 Zd4.S:=sE Zbf Zd4.ev (Zaj ⟨ZaX.sound,ZbR.sound,Zia.sound,Zfo.sound,Zc3.sound,trivial⟩) Tryz.func120
def Zi3.S:ZaT:=⟨0,[.sc (.list [.str,.int .i64,.int .i64,.int .i64,.int .i64,.int .i64,.int .i64,.str]),.sc .str],[],[.list [.str,.int .i64,.int .i64,.int .i64,.int .i64,.int .i64,.int .i64,.str],.str],⟨[.int .i64],.sc (.int .i64),[]⟩,
 fun ((list,name):(List (Str×Int×Int×Int×Int×Int×Int×Str))×Str)=>Zi3 list name⟩
theorem Zi3.ev:∀d,Zbb C0 (hnd (tab [])) Tryz.f86 (.seq .u (.seq (.seq .u (.blk (.loopS ⟨[.list [.str,.int .i64,.int .i64,.int .i64,.int .i64,.int .i64,.int .i64,.str],.str,.int .i64],[(0,.sc (.list [.str,.int .i64,.int .i64,.int .i64,.int .i64,.int .i64,.int .i64,.str])),(1,.sc .str),(5,.sc (.int .i64))],[]⟩ (fun ((list1,name1,i):(List (Str×Int×Int×Int×Int×Int×Int×Str))×Str×Int)=>((list1.length:Int)-i).toNat+1) 0 ⟨[],[],[]⟩ .u))) .u)) Zi3.S d=Zi3.S.F d:=fun _=>by kernel_rfl
theorem Zi3.sound:Zah Tryz.prog C0 86 Zi3.S:=sE Zbf Zi3.ev (Zaj trivial) Tryz.func86
def ZaA.S:ZaT:=⟨0,[.sc (.list [.str,.int .i64,.int .i64,.int .i64,.int .i64,.int .i64,.int .i64,.str])],[],[.list [.str,.int .i64,.int .i64,.int .i64,.int .i64,.int .i64,.int .i64,.str]],⟨[.bool],.sc .bool,[]⟩,
 fun (list:List (Str×Int×Int×Int×Int×Int×Int×Str))=>ZaA list⟩
theorem ZaA.ev:∀d,Zbb C0 (hnd (tab [(86,Zi3.S),(100,ZaX.S),(107,ZcW.S)])) Tryz.f118 (.seq .u (.seq (.seq .u (.blk (.loopS ⟨[.list [.str,.int .i64,.int .i64,.int .i64,.int .i64,.int .i64,.int .i64,.str],.int .i64],[(0,.sc (.list [.str,.int .i64,.int .i64,.int .i64,.int .i64,.int .i64,.int .i64,.str])),(3,.sc (.int .i64))],[]⟩ (fun ((list1,i):(List (Str×Int×Int×Int×Int×Int×Int×Str))×Int)=>((list1.length:Int)-i).toNat+1) 0 ⟨[.list [.str,.int .i64,.int .i64,.int .i64,.int .i64,.int .i64,.int .i64,.str]],[(0,.sc (.list [.str,.int .i64,.int .i64,.int .i64,.int .i64,.int .i64,.int .i64,.str]))],[]⟩ (.seq .u (.seq (.blk (.seq (.seq (.reg [.bool] [(27,.sc .bool)]) .u) (.seq .u (.blk (.loopS ⟨[.list [.str,.int .i64,.int .i64,.int .i64,.int .i64,.int .i64,.int .i64,.str],.int .i64,.int .i64],[(0,.sc (.list [.str,.int .i64,.int .i64,.int .i64,.int .i64,.int .i64,.int .i64,.str])),(3,.sc (.int .i64)),(4,.sc (.int .i64))],[]⟩ (fun ((list2,i1,k):(List (Str×Int×Int×Int×Int×Int×Int×Str))×Int×Int)=>((list2.length:Int)-k).toNat+1) 2 ⟨[.list [.str,.int .i64,.int .i64,.int .i64,.int .i64,.int .i64,.int .i64,.str],.int .i64],[(0,.sc (.list [.str,.int .i64,.int .i64,.int .i64,.int .i64,.int .i64,.int .i64,.str])),(3,.sc (.int .i64))],[]⟩ .u))))) .u))))) .u)) ZaA.S d=ZaA.S.F d:=fun _=>by kernel_rfl
theorem ZaA.sound:Zah Tryz.prog C0 118 ZaA.S:=sE Zbf ZaA.ev (Zaj ⟨Zi3.sound,ZaX.sound,ZcW.sound,trivial⟩) Tryz.func118
def Zcu.S:ZaT:=⟨0,[.agg [.sc .str,.sc (.int .i64),.sc (.int .i64),.sc (.int .i64),.sc (.int .i64),.sc (.int .i64),.sc (.int .i64),.sc .str],.sc (.int .i64)],[],[.str,.int .i64,.int .i64,.int .i64,.int .i64,.int .i64,.int .i64,.str,.int .i64],⟨[.str],.sc .str,[]⟩,
 fun ((name,y,mo,d,h,mi,sec,text,at_):Str×Int×Int×Int×Int×Int×Int×Str×Int)=>Zcu name y mo d h mi sec text at_⟩
theorem Zcu.ev:∀d,Zbb C0 (hnd (tab [(152,Zau.S),(166,Zco.S)])) Tryz.f126 .u Zcu.S d=Zcu.S.F d:=fun _=>by kernel_rfl
theorem Zcu.sound:Zah Tryz.prog C0 126 Zcu.S:=sE Zbf Zcu.ev (Zaj ⟨Zau.sound,Zco.sound,trivial⟩) Tryz.func126
end Ev
end
section
open Go Go.Proofs
set_option maxRecDepth 100000
namespace Ev
set_option maxHeartbeats 1000000
def Zgy.S:ZaT:=⟨0,[.sc (.int .i64),.sc (.int .i64),.sc (.int .i64)],[],[.int .i64,.int .i64,.int .i64],⟨[.str],.sc .str,[]⟩,
 fun ((many,long,at_):Int×Int×Int)=>Zgy many long at_⟩
theorem Zgy.ev:∀d,Zbb C0 (hnd (tab [(152,Zau.S)])) Tryz.f121 .u Zgy.S d=Zgy.S.F d:=fun _=>by kernel_rfl
theorem Zgy.sound:Zah Tryz.prog C0 121 Zgy.S:=sE Zbf Zgy.ev (Zaj ⟨Zau.sound,trivial⟩) Tryz.func121
def Zed.S:ZaT:=⟨0,[.sc (.list [.str,.int .i64,.int .i64,.int .i64,.int .i64,.int .i64,.int .i64,.str])],[],[.list [.str,.int .i64,.int .i64,.int .i64,.int .i64,.int .i64,.int .i64,.str]],⟨[.str],.sc .str,[]⟩,
 fun (list:List (Str×Int×Int×Int×Int×Int×Int×Str))=>Zed list⟩
theorem Zed.ev:∀d,Zbb C0 (hnd (tab [(121,Zgy.S),(126,Zcu.S),(127,ZdR.S)])) Tryz.f75 (.seq .u (.seq .u (.seq .u (.seq (.seq .u (.blk (.loop ⟨[.list [.str,.int .i64,.int .i64,.int .i64,.int .i64,.int .i64,.int .i64,.str],.str,.str,.int .i64],[(0,.sc (.list [.str,.int .i64,.int .i64,.int .i64,.int .i64,.int .i64,.int .i64,.str])),(3,.sc .str),(4,.sc .str),(5,.sc (.int .i64))],[]⟩ (fun ((list1,out,heads,i):(List (Str×Int×Int×Int×Int×Int×Int×Str))×Str×Str×Int)=>((list1.length:Int)-i).toNat+1) 0 ⟨[.list [.str,.int .i64,.int .i64,.int .i64,.int .i64,.int .i64,.int .i64,.str],.str,.str],[(0,.sc (.list [.str,.int .i64,.int .i64,.int .i64,.int .i64,.int .i64,.int .i64,.str])),(3,.sc .str),(4,.sc .str)],[]⟩ .u))) .u)))) Zed.S d=Zed.S.F d:=fun _=>by kernel_rfl
theorem Zed.sound:Zah Tryz.prog C0 75 Zed.S:=sE Zbf Zed.ev (Zaj ⟨Zgy.sound,Zcu.sound,ZdR.sound,trivial⟩) Tryz.func75
def Zet.S:ZaT:=⟨0,[.sc .str,.sc (.int .i64)],[],[.str,.int .i64],⟨[.int .i64,.bool,.list [.str,.int .i64,.int .i64,.int .i64,.int .i64,.int .i64,.int .i64,.str]],.tup [.full 0,.sc (.int .i64),.sc .bool],[.arr [.str,.int .i64,.int .i64,.int .i64,.int .i64,.int .i64,.int .i64,.str]]⟩,
 fun ((text,many):Str×Int)=>Zet text many⟩
theorem Zet.ev:∀d,Zbb C0 (hnd (tab [(120,Zd4.S)])) Tryz.f117 (.seq .u (.seq .u (.seq .u (.seq (.seq .u (.blk (.loopS ⟨[.str,.int .i64,.int .i64,.int .i64,.list [.str,.int .i64,.int .i64,.int .i64,.int .i64,.int .i64,.int .i64,.str]],[(0,.sc .str),(1,.sc (.int .i64)),(7,.full 0),(8,.sc (.int .i64)),(9,.sc (.int .i64))],[.arr [.str,.int .i64,.int .i64,.int .i64,.int .i64,.int .i64,.int .i64,.str]]⟩ (fun ((text1,many1,at_,i,out):Str×Int×Int×Int×List (Str×Int×Int×Int×Int×Int×Int×Str))=>(many1-i).toNat+1) 0 ⟨[.int .i64,.list [.str,.int .i64,.int .i64,.int .i64,.int .i64,.int .i64,.int .i64,.str]],[(7,.full 0),(8,.sc (.int .i64))],[.arr [.str,.int .i64,.int .i64,.int .i64,.int .i64,.int .i64,.int .i64,.str]]⟩ .u))) .u)))) Zet.S d=Zet.S.F d:=fun _=>by kernel_rfl
theorem Zet.sound:Zah Tryz.prog C0 117 Zet.S:=sE Zbf Zet.ev (Zaj ⟨Zd4.sound,trivial⟩) Tryz.func117
def Zfn.S:ZaT:=⟨0,[.sc .str,.sc (.int .i64),.sc (.int .i64)],[],[.str,.int .i64,.int .i64],⟨[.int .i64,.bool],.tup [.sc (.int .i64),.sc .bool],[]⟩,
 fun ((text,head,at_):Str×Int×Int)=>Zfn text head at_⟩
theorem Zfn.ev:∀d,Zbb C0 (hnd (tab [(115,ZbR.S),(152,Zau.S)])) Tryz.f119 (.seq .u (.seq .u (.seq .u (.seq (.seq (.reg [.bool] [(36,.sc .bool)]) .u) (.seq (.reg [.bool] [(10,.sc .bool)]) (.seq (.reg [.bool] [(11,.sc .bool)]) (.seq (.reg [.int .i64,.bool] [(6,.sc (.int .i64)),(7,.sc .bool)]) .u))))))) Zfn.S d=Zfn.S.F d:=fun _=>by kernel_rfl
theorem Zfn.sound:Zah Tryz.prog C0 119 Zfn.S:=sE Zbf Zfn.ev (Zaj ⟨ZbR.sound,Zau.sound,trivial⟩) Tryz.func119
def ZaS.S:ZaT:=⟨0,[.sc .str],[],[.str],⟨[.bool,.list [.str,.int .i64,.int .i64,.int .i64,.int .i64,.int .i64,.int .i64,.str]],.tup [.full 0,.sc .bool],[.arr [.str,.int .i64,.int .i64,.int .i64,.int .i64,.int .i64,.int .i64,.str]]⟩,
 fun (text:Str)=>ZaS text⟩
theorem ZaS.ev:∀d,Zbb C0 (hnd (tab [(115,ZbR.S),(116,ZgA.S),(117,Zet.S),(118,ZaA.S),(119,Zfn.S),(120,Zd4.S),(121,Zgy.S)])) Tryz.f58 (.seq .u (.seq .u (.seq .u (.seq .u (.seq (.seq (.reg [.bool] [(38,.sc .bool)]) .u) (.seq .u (.seq .u (.seq (.seq .u (.blk (.loopS ⟨[.str,.int .i64,.int .i64,.int .i64,.int .i64,.int .i64,.list [.str,.int .i64,.int .i64,.int .i64,.int .i64,.int .i64,.int .i64,.str]],[(0,.sc .str),(4,.sc (.int .i64)),(5,.full 0),(6,.sc (.int .i64)),(8,.sc (.int .i64)),(9,.sc (.int .i64)),(10,.sc (.int .i64))],[.arr [.str,.int .i64,.int .i64,.int .i64,.int .i64,.int .i64,.int .i64,.str]]⟩ (fun ((text1,many,at_,head,own,i,list):Str×Int×Int×Int×Int×Int×List (Str×Int×Int×Int×Int×Int×Int×Str))=>(many-i).toNat+1) 0 ⟨[.str,.int .i64,.int .i64,.int .i64,.list [.str,.int .i64,.int .i64,.int .i64,.int .i64,.int .i64,.int .i64,.str]],[(0,.sc .str),(4,.sc (.int .i64)),(5,.full 0),(6,.sc (.int .i64)),(8,.sc (.int .i64))],[.arr [.str,.int .i64,.int .i64,.int .i64,.int .i64,.int .i64,.int .i64,.str]]⟩ .u))) .u)))))))) ZaS.S d=ZaS.S.F d:=fun _=>by kernel_rfl
theorem ZaS.sound:Zah Tryz.prog C0 58 ZaS.S:=sE Zbf ZaS.ev (Zaj ⟨ZbR.sound,ZgA.sound,Zet.sound,ZaA.sound,Zfn.sound,Zd4.sound,Zgy.sound,trivial⟩) Tryz.func58
def ZbU.S:ZaT:=⟨0,[.sc (.list [.str,.int .i64,.int .i64,.int .i64,.int .i64,.int .i64,.int .i64,.str]),.sc .str],[],[.list [.str,.int .i64,.int .i64,.int .i64,.int .i64,.int .i64,.int .i64,.str],.str],⟨[.bool],.sc .bool,[]⟩,
 fun ((list,name):(List (Str×Int×Int×Int×Int×Int×Int×Str))×Str)=>ZbU list name⟩
theorem ZbU.ev:∀d,Zbb C0 (hnd (tab [(107,ZcW.S)])) Tryz.f96 (.seq .u (.seq (.seq .u (.blk (.loopS ⟨[.list [.str,.int .i64,.int .i64,.int .i64,.int .i64,.int .i64,.int .i64,.str],.str,.int .i64],[(0,.sc (.list [.str,.int .i64,.int .i64,.int .i64,.int .i64,.int .i64,.int .i64,.str])),(1,.sc .str),(5,.sc (.int .i64))],[]⟩ (fun ((list1,name1,i):(List (Str×Int×Int×Int×Int×Int×Int×Str))×Str×Int)=>((list1.length:Int)-i).toNat+1) 0 ⟨[],[],[]⟩ (.seq .u (.seq (.blk (.seq (.reg [.bool] [(36,.sc .bool)]) .u)) .u))))) .u)) ZbU.S d=ZbU.S.F d:=fun _=>by kernel_rfl
theorem ZbU.sound:Zah Tryz.prog C0 96 ZbU.S:=sE Zbf ZbU.ev (Zaj ⟨ZcW.sound,trivial⟩) Tryz.func96
def Zh8.S:ZaT:=⟨0,[.full 0,.agg [.sc .str,.sc (.int .i64),.sc (.int .i64),.sc (.int .i64),.sc (.int .i64),.sc (.int .i64),.sc (.int .i64),.sc .str]],[.arr [.str,.int .i64,.int .i64,.int .i64,.int .i64,.int .i64,.int .i64,.str]],[.str,.int .i64,.int .i64,.int .i64,.int .i64,.int .i64,.int .i64,.str,.list [.str,.int .i64,.int .i64,.int .i64,.int .i64,.int .i64,.int .i64,.str]],⟨[.int .i64,.list [.str,.int .i64,.int .i64,.int .i64,.int .i64,.int .i64,.int .i64,.str]],.tup [.full 0,.sc (.int .i64)],[.arr [.str,.int .i64,.int .i64,.int .i64,.int .i64,.int .i64,.int .i64,.str]]⟩,
 fun ((name,y,mo,d,h,mi,sec,text,list):Str×Int×Int×Int×Int×Int×Int×Str×List (Str×Int×Int×Int×Int×Int×Int×Str))=>Zh8 name y mo d h mi sec text list⟩
theorem Zh8.ev:∀d,Zbb C0 (hnd (tab [(96,ZbU.S),(100,ZaX.S)])) Tryz.f74 .u Zh8.S d=Zh8.S.F d:=fun _=>by kernel_rfl
theorem Zh8.sound:Zah Tryz.prog C0 74 Zh8.S:=sE Zbf Zh8.ev (Zaj ⟨ZbU.sound,ZaX.sound,trivial⟩) Tryz.func74
def Zgx.S:ZaT:=⟨0,[.sc .str],[],[.str],⟨[.bool],.sc .bool,[]⟩,
 fun (text:Str)=>Zgx text⟩
theorem Zgx.ev:∀d,Zbb C0 (hnd (tab [(58,ZaS.S)])) Tryz.f113 .u Zgx.S d=Zgx.S.F d:=fun _=>by kernel_rfl
theorem Zgx.sound:Zah Tryz.prog C0 113 Zgx.S:=sE Zbf Zgx.ev (Zaj ⟨ZaS.sound,trivial⟩) Tryz.func113
def Zb2.S:ZaT:=⟨0,[.agg [.sc .str,.sc .str]],[],[.str,.str],⟨[.bool],.sc .bool,[]⟩,
 fun ((text,log):Str×Str)=>Zb2 text log⟩
theorem Zb2.ev:∀d,Zbb C0 (hnd (tab [(113,Zgx.S)])) Tryz.f112 (.seq .u (.seq (.reg [.bool] [(2,.sc .bool)]) .u)) Zb2.S d=Zb2.S.F d:=fun _=>by kernel_rfl
theorem Zb2.sound:Zah Tryz.prog C0 112 Zb2.S:=sE Zbf Zb2.ev (Zaj ⟨Zgx.sound,trivial⟩) Tryz.func112
def Zh7.S:ZaT:=⟨0,[.sc .str],[],[.str],⟨[.str],.sc .str,[]⟩,
 fun (text:Str)=>Zh7 text⟩
theorem Zh7.ev:∀d,Zbb C0 (hnd (tab [(151,Zev.S)])) Tryz.f114 .u Zh7.S d=Zh7.S.F d:=fun _=>by kernel_rfl
theorem Zh7.sound:Zah Tryz.prog C0 114 Zh7.S:=sE Zbf Zh7.ev (Zaj ⟨Zev.sound,trivial⟩) Tryz.func114
def Zbu.S:ZaT:=⟨0,[.agg [.sc .str,.sc .str],.sc .str,.sc (.int .i64)],[],[.str,.str,.str,.int .i64],⟨[.str,.str],.agg [.sc .str,.sc .str],[]⟩,
 fun ((dtext,dlog,text,bytes):Str×Str×Str×Int)=>Zbu dtext dlog text bytes⟩
theorem Zbu.ev:∀d,Zbb C0 (hnd (tab [(112,Zb2.S),(113,Zgx.S),(114,Zh7.S)])) Tryz.f55 (.seq .u (.seq (.seq (.reg [.bool] [(15,.sc .bool)]) .u) (.seq .u (.join ⟨[.int .i64,.str,.str,.str,.str,.str],[(2,.sc (.int .i64)),(3,.ptr 0 0),(6,.ptr 1 0),(7,.sc .str)],[.box [.sc .str,.sc .str],.box [.sc .str,.sc .str]]⟩ .u .u)))) Zbu.S d=Zbu.S.F d:=fun _=>by kernel_rfl
theorem Zbu.sound:Zah Tryz.prog C0 55 Zbu.S:=sE Zbf Zbu.ev (Zaj ⟨Zb2.sound,Zgx.sound,Zh7.sound,trivial⟩) Tryz.func55
def Zfp.S:ZaT:=⟨0,[.sc (.list [.int .u8])],[],[.list [.int .u8]],⟨[.list [.int .u8],.int .i64],.ptr 0 0,[.box [.sc (.list [.int .u8]),.sc (.int .i64)]]⟩,
 fun (code_:List Int)=>Zfp code_⟩
theorem Zfp.ev:∀d,Zbb C0 (hnd (tab [])) Tryz.f68 .u Zfp.S d=Zfp.S.F d:=fun _=>by kernel_rfl
theorem Zfp.sound:Zah Tryz.prog C0 68 Zfp.S:=sE Zbf Zfp.ev (Zaj trivial) Tryz.func68
def pick.S:ZaT:=⟨1,[.ptr 0 0,.sc (.int .i64)],[.box [.sc (.list [.int .u8]),.sc (.int .i64)]],[.int .i64,.list [.int .u8],.int .i64],⟨[.int .i64,.list [.int .u8],.int .i64],.sc (.int .i64),[.box [.sc (.list [.int .u8]),.sc (.int .i64)]]⟩,
 fun ((n,b,p):Int×List Int×Int)=>pick n b p⟩
theorem pick.ev:∀d,Zbb C0 (hnd (tab [])) Tryz.f109 (.seq .u (.seq .u (.seq (.seq (.reg [.bool] [(24,.sc .bool)]) .u) .u))) pick.S d=pick.S.F d:=fun _=>by kernel_rfl
theorem pick.sound:Zah Tryz.prog C0 109 pick.S:=sE Zbf pick.ev (Zaj trivial) Tryz.func109
def Zmm.S:ZaT:=⟨1,[.ptr 0 0,.sc (.list [.str])],[.box [.sc (.list [.int .u8]),.sc (.int .i64)]],[.list [.str],.list [.int .u8],.int .i64],⟨[.str,.list [.int .u8],.int .i64],.sc .str,[.box [.sc (.list [.int .u8]),.sc (.int .i64)]]⟩,
 fun ((xs,b,p):List Str×List Int×Int)=>Zmm xs b p⟩
theorem Zmm.ev:∀d,Zbb C0 (hnd (tab [(109,pick.S)])) Tryz.f102 .u Zmm.S d=Zmm.S.F d:=fun _=>by kernel_rfl
theorem Zmm.sound:Zah Tryz.prog C0 102 Zmm.S:=sE Zbf Zmm.ev (Zaj ⟨pick.sound,trivial⟩) Tryz.func102
def Zdx.S:ZaT:=⟨0,[.sc .str,.sc (.int .i64)],[],[.str,.int .i64],⟨[.str],.sc .str,[]⟩,
 fun ((s,n):Str×Int)=>Zdx s n⟩
theorem Zdx.ev:∀d,Zbb C0 (hnd (tab [])) Tryz.f184 (.seq .u (.seq .u (.seq (.blk (.loop ⟨[.str,.int .i64,.str],[(0,.sc .str),(1,.sc (.int .i64)),(5,.sc .str)],[]⟩ (fun ((s1,n1,out):Str×Int×Str)=>n1.toNat+1) 0 ⟨[.str],[(5,.sc .str)],[]⟩ .u)) .u))) Zdx.S d=Zdx.S.F d:=fun _=>by kernel_rfl
theorem Zdx.sound:Zah Tryz.prog C0 184 Zdx.S:=sE Zbf Zdx.ev (Zaj trivial) Tryz.func184
def ZbZ.S:ZaT:=⟨1,[.ptr 0 0],[.box [.sc (.list [.int .u8]),.sc (.int .i64)]],[.list [.int .u8],.int .i64],⟨[.str,.list [.int .u8],.int .i64],.sc .str,[.box [.sc (.list [.int .u8]),.sc (.int .i64)]]⟩,
 fun ((b,p):List Int×Int)=>ZbZ b p⟩
theorem ZbZ.ev:∀d,Zbb C0 (hnd (tab [(102,Zmm.S),(109,pick.S),(184,Zdx.S)])) Tryz.f183 (.seq .u (.seq (.seq .u (.blk (.seq .u (.cond .u (.seq .u (.cond .u (.seq .u (.cond (.seq .u (.seq (.seq .u (.blk (.loop ⟨[.int .i64,.list [.int .u8],.int .i64,.list [.int .u8]],[(0,.ptr 0 0),(3,.full 1),(4,.sc (.int .i64))],[.box [.sc (.list [.int .u8]),.sc (.int .i64)],.arr [.int .u8]]⟩ (fun ((n,o,o1,out):Int×List Int×Int×List Int)=>(n-0).toNat+1) 1 ⟨[.list [.int .u8],.int .i64,.list [.int .u8]],[(3,.full 1)],[.box [.sc (.list [.int .u8]),.sc (.int .i64)],.arr [.int .u8]]⟩ .u))) .u)) .u)))))))) (.seq .u (.seq (.seq .u (.blk (.loop ⟨[.str,.int .i64,.list [.int .u8],.int .i64],[(0,.ptr 0 0),(5,.sc .str),(6,.sc (.int .i64))],[.box [.sc (.list [.int .u8]),.sc (.int .i64)]]⟩ (fun ((out2,n1,o4,o5):Str×Int×List Int×Int)=>(n1-0).toNat+1) 3 ⟨[.str,.list [.int .u8],.int .i64],[(5,.sc .str)],[.box [.sc (.list [.int .u8]),.sc (.int .i64)]]⟩ .u))) .u)))) ZbZ.S d=ZbZ.S.F d:=fun _=>by kernel_rfl
theorem ZbZ.sound:Zah Tryz.prog C0 183 ZbZ.S:=sE Zbf ZbZ.ev (Zaj ⟨Zmm.sound,pick.sound,Zdx.sound,trivial⟩) Tryz.func183
def ZdU.S:ZaT:=⟨1,[.ptr 0 0],[.box [.sc (.list [.int .u8]),.sc (.int .i64)]],[.list [.int .u8],.int .i64],⟨[.str,.list [.int .u8],.int .i64],.sc .str,[.box [.sc (.list [.int .u8]),.sc (.int .i64)]]⟩,
 fun ((b,p):List Int×Int)=>ZdU b p⟩
theorem ZdU.ev:∀d,Zbb C0 (hnd (tab [(102,Zmm.S)])) Tryz.f88 .u ZdU.S d=ZdU.S.F d:=fun _=>by kernel_rfl
theorem ZdU.sound:Zah Tryz.prog C0 88 ZdU.S:=sE Zbf ZdU.ev (Zaj ⟨Zmm.sound,trivial⟩) Tryz.func88
def ZeG.S:ZaT:=⟨0,[.agg [.sc .str,.sc .str],.agg [.sc .str,.sc .str]],[],[.str,.str,.str,.str],⟨[.bool],.sc .bool,[]⟩,
 fun ((text,log,text1,log1):Str×Str×Str×Str)=>ZeG text log text1 log1⟩
theorem ZeG.ev:∀d,Zbb C0 (hnd (tab [])) Tryz.f54 (.seq .u (.seq (.reg [.bool] [(4,.sc .bool)]) .u)) ZeG.S d=ZeG.S.F d:=fun _=>by kernel_rfl
theorem ZeG.sound:Zah Tryz.prog C0 54 ZeG.S:=sE Zbf ZeG.ev (Zaj trivial) Tryz.func54
def Zgv.S:ZaT:=⟨1,[.ptr 0 0,.sc (.list [.int .i64])],[.box [.sc (.list [.int .u8]),.sc (.int .i64)]],[.list [.int .i64],.list [.int .u8],.int .i64],⟨[.int .i64,.list [.int .u8],.int .i64],.sc (.int .i64),[.box [.sc (.list [.int .u8]),.sc (.int .i64)]]⟩,
 fun ((xs,b,p):List Int×List Int×Int)=>Zgv xs b p⟩
theorem Zgv.ev:∀d,Zbb C0 (hnd (tab [(109,pick.S)])) Tryz.f108 .u Zgv.S d=Zgv.S.F d:=fun _=>by kernel_rfl
theorem Zgv.sound:Zah Tryz.prog C0 108 Zgv.S:=sE Zbf Zgv.ev (Zaj ⟨pick.sound,trivial⟩) Tryz.func108
def Zcp.S:ZaT:=⟨1,[.ptr 0 0],[.box [.sc (.list [.int .u8]),.sc (.int .i64)]],[.list [.int .u8],.int .i64],⟨[.int .i64,.int .i64,.int .i64,.int .i64,.int .i64,.int .i64,.list [.int .u8],.int .i64],.agg [.sc (.int .i64),.sc (.int .i64),.sc (.int .i64),.sc (.int .i64),.sc (.int .i64),.sc (.int .i64)],[.box [.sc (.list [.int .u8]),.sc (.int .i64)]]⟩,
 fun ((b,p):List Int×Int)=>Zcp b p⟩
theorem Zcp.ev:∀d,Zbb C0 (hnd (tab [(108,Zgv.S),(109,pick.S)])) Tryz.f145 .u Zcp.S d=Zcp.S.F d:=fun _=>by kernel_rfl
theorem Zcp.sound:Zah Tryz.prog C0 145 Zcp.S:=sE Zbf Zcp.ev (Zaj ⟨Zgv.sound,pick.sound,trivial⟩) Tryz.func145
def Zdb.S:ZaT:=⟨1,[.ptr 0 0],[.box [.sc (.list [.int .u8]),.sc (.int .i64)]],[.list [.int .u8],.int .i64],⟨[.str,.int .i64,.int .i64,.int .i64,.int .i64,.int .i64,.int .i64,.str,.list [.int .u8],.int .i64],.agg [.sc .str,.sc (.int .i64),.sc (.int .i64),.sc (.int .i64),.sc (.int .i64),.sc (.int .i64),.sc (.int .i64),.sc .str],[.box [.sc (.list [.int .u8]),.sc (.int .i64)]]⟩,
 fun ((b,p):List Int×Int)=>Zdb b p⟩
theorem Zdb.ev:∀d,Zbb C0 (hnd (tab [(88,ZdU.S),(145,Zcp.S),(183,ZbZ.S)])) Tryz.f142 .u Zdb.S d=Zdb.S.F d:=fun _=>by kernel_rfl
theorem Zdb.sound:Zah Tryz.prog C0 142 Zdb.S:=sE Zbf Zdb.ev (Zaj ⟨ZdU.sound,Zcp.sound,ZbZ.sound,trivial⟩) Tryz.func142
def Zba.S:ZaT:=⟨1,[.ptr 0 0],[.box [.sc (.list [.int .u8]),.sc (.int .i64)]],[.list [.int .u8],.int .i64],⟨[.list [.int .u8],.int .i64,.list [.str,.int .i64,.int .i64,.int .i64,.int .i64,.int .i64,.int .i64,.str]],.full 1,[.box [.sc (.list [.int .u8]),.sc (.int .i64)],.arr [.str,.int .i64,.int .i64,.int .i64,.int .i64,.int .i64,.int .i64,.str]]⟩,
 fun ((b,p):List Int×Int)=>Zba b p⟩
theorem Zba.ev:∀d,Zbb C0 (hnd (tab [(74,Zh8.S),(109,pick.S),(142,Zdb.S),(145,Zcp.S),(151,Zev.S)])) Tryz.f125 (.seq .u (.seq .u (.seq (.seq .u (.blk (.loop ⟨[.int .i64,.list [.int .u8],.int .i64,.list [.str,.int .i64,.int .i64,.int .i64,.int .i64,.int .i64,.int .i64,.str]],[(0,.ptr 0 0),(3,.full 1),(4,.sc (.int .i64))],[.box [.sc (.list [.int .u8]),.sc (.int .i64)],.arr [.str,.int .i64,.int .i64,.int .i64,.int .i64,.int .i64,.int .i64,.str]]⟩ (fun ((n,o,o1,out):Int×List Int×Int×List (Str×Int×Int×Int×Int×Int×Int×Str))=>(n-0).toNat+1) 0 ⟨[.list [.int .u8],.int .i64,.list [.str,.int .i64,.int .i64,.int .i64,.int .i64,.int .i64,.int .i64,.str]],[(0,.ptr 0 0),(3,.full 1)],[.box [.sc (.list [.int .u8]),.sc (.int .i64)],.arr [.str,.int .i64,.int .i64,.int .i64,.int .i64,.int .i64,.int .i64,.str]]⟩ .u))) (.seq (.seq .u (.cond (.seq .u (.blk (.loop ⟨[.int .i64,.list [.int .u8],.int .i64,.list [.str,.int .i64,.int .i64,.int .i64,.int .i64,.int .i64,.int .i64,.str]],[(0,.ptr 0 0),(3,.full 1),(5,.sc (.int .i64))],[.box [.sc (.list [.int .u8]),.sc (.int .i64)],.arr [.str,.int .i64,.int .i64,.int .i64,.int .i64,.int .i64,.int .i64,.str]]⟩ (fun ((n1,o4,o5,out2):Int×List Int×Int×List (Str×Int×Int×Int×Int×Int×Int×Str))=>(6-n1).toNat+1) 2 ⟨[.list [.int .u8],.int .i64,.list [.str,.int .i64,.int .i64,.int .i64,.int .i64,.int .i64,.int .i64,.str]],[(3,.full 1)],[.box [.sc (.list [.int .u8]),.sc (.int .i64)],.arr [.str,.int .i64,.int .i64,.int .i64,.int .i64,.int .i64,.int .i64,.str]]⟩ .u))) .u)) .u)))) Zba.S d=Zba.S.F d:=fun _=>by kernel_rfl
theorem Zba.sound:Zah Tryz.prog C0 125 Zba.S:=sE Zbf Zba.ev (Zaj ⟨Zh8.sound,pick.sound,Zdb.sound,Zcp.sound,Zev.sound,trivial⟩) Tryz.func125
def Ze9.S:ZaT:=⟨1,[.ptr 0 0],[.box [.sc (.list [.int .u8]),.sc (.int .i64)]],[.list [.int .u8],.int .i64],⟨[.str,.list [.int .u8],.int .i64],.sc .str,[.box [.sc (.list [.int .u8]),.sc (.int .i64)]]⟩,
 fun ((b,p):List Int×Int)=>Ze9 b p⟩
theorem Ze9.ev:∀d,Zbb C0 (hnd (tab [(75,Zed.S),(125,Zba.S)])) Tryz.f69 .u Ze9.S d=Ze9.S.F d:=fun _=>by kernel_rfl
theorem Ze9.sound:Zah Tryz.prog C0 69 Ze9.S:=sE Zbf Ze9.ev (Zaj ⟨Zed.sound,Zba.sound,trivial⟩) Tryz.func69
def Zbv.S:ZaT:=⟨0,[.sc (.list [.int .u8])],[],[.list [.int .u8]],⟨[.str,.str,.str,.int .i64],.tup [.agg [.sc .str,.sc .str],.sc .str,.sc (.int .i64)],[]⟩,
 fun (code_:List Int)=>Zbv code_⟩
theorem Zbv.ev:∀d,Zbb C0 (hnd (tab [(68,Zfp.S),(69,Ze9.S),(108,Zgv.S),(109,pick.S)])) Tryz.f51 .u Zbv.S d=Zbv.S.F d:=fun _=>by kernel_rfl
theorem Zbv.sound:Zah Tryz.prog C0 51 Zbv.S:=sE Zbf Zbv.ev (Zaj ⟨Zfp.sound,Ze9.sound,Zgv.sound,pick.sound,trivial⟩) Tryz.func51
def FnDiskNone.S:ZaT:=⟨0,[.sc (.list [.int .u8])],[],[.list [.int .u8]],⟨[.bool],.sc .bool,[]⟩,
 fun (code_:List Int)=>FnDiskNone code_⟩
theorem FnDiskNone.ev:∀d,Zbb C0 (hnd (tab [(51,Zbv.S),(52,ZcX.S),(53,ZdD.S),(54,ZeG.S),(55,Zbu.S),(56,Zd5.S)])) Tryz.f14 (.seq .u (.seq .u (.seq .u (.seq .u (.seq .u (.seq .u (.seq (.reg [.bool] [(2,.sc .bool)]) .u))))))) FnDiskNone.S d=FnDiskNone.S.F d:=fun _=>by kernel_rfl
end Ev
end

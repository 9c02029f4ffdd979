/- That the evaluator says of each function what it computes, and so that the program does. Conditions: none. -/
import Derived.Test.YtadeffpcedlalaaGreatDoorProg
import Derived.KernelRfl
import Derived.Test.YtadeffpcedlalaaGreatDoorBGP0
set_option linter.unusedVariables false
set_option linter.unusedSimpArgs false
section
open Go Go.Proofs
set_option maxRecDepth 100000
namespace Ev
def Zyq:List (Nat×TI):=[
 (2,⟨.int .i64,1,8,[.int .i64 0],some [.int .i64]⟩),
 (3,⟨.int .i64,1,8,[.int .i64 0],some [.int .i64]⟩),
 (4,⟨.bool,1,1,[.bool false],some [.bool]⟩),
 (5,⟨.int .u8,1,1,[.int .u8 0],some [.int .u8]⟩),
 (6,⟨.int .u8,1,1,[.int .u8 0],some [.int .u8]⟩),
 (7,⟨.struct [(0,1,false),(1,1,false),(2,1,false),(3,1,false)],4,24,[.int .i64 0,.int .i64 0,.bool false,.int .u8 0],some [.int .i64,.int .i64,.bool,.int .u8]⟩),
 (8,⟨.struct [(0,1,false),(1,1,false),(2,1,false),(3,1,false)],4,24,[.int .i64 0,.int .i64 0,.bool false,.int .u8 0],some [.int .i64,.int .i64,.bool,.int .u8]⟩),
 (9,⟨.str,1,16,[.str []],some [.str]⟩),
 (10,⟨.str,1,16,[.str []],some [.str]⟩),
 (11,⟨.str,1,16,[.str []],some [.str]⟩),
 (12,⟨.int .u64,1,8,[.int .u64 0],some [.int .u64]⟩),
 (13,⟨.struct [(0,1,false),(1,1,false)],2,24,[.str [],.int .u64 0],some [.str,.int .u64]⟩),
 (14,⟨.struct [(0,1,false),(1,1,false)],2,24,[.str [],.int .u64 0],some [.str,.int .u64]⟩),
 (15,⟨.ptr 242,1,8,[.nilp],none⟩),
 (16,⟨.ptr 245,1,8,[.nilp],none⟩),
 (17,⟨.ptr 252,1,8,[.nilp],none⟩),
 (18,⟨.struct [(0,1,false)],1,8,[.nilp],none⟩),
 (19,⟨.struct [(0,1,false)],1,8,[.nilp],none⟩),
 (21,⟨.int .i32,1,4,[.int .i32 0],some [.int .i32]⟩),
 (22,⟨.slice 5,1,24,[.nilsl],some [.ints .u8]⟩),
 (23,⟨.slice 28,1,24,[.nilsl],none⟩),
 (27,⟨.struct [(0,1,false),(1,1,false)],2,32,[.str [],.str []],some [.str,.str]⟩),
 (28,⟨.struct [(0,1,false),(1,1,false)],2,32,[.str [],.str []],some [.str,.str]⟩),
 (29,⟨.struct [(0,1,false),(1,1,false),(2,1,false),(3,1,false),(4,1,false),(5,1,false)],6,48,[.int .i64 0,.int .i64 0,.int .i64 0,.int .i64 0,.int .i64 0,.int .i64 0],some [.int .i64,.int .i64,.int .i64,.int .i64,.int .i64,.int .i64]⟩),
 (30,⟨.struct [(0,1,false),(1,1,false),(2,1,false),(3,1,false),(4,1,false),(5,1,false)],6,48,[.int .i64 0,.int .i64 0,.int .i64 0,.int .i64 0,.int .i64 0,.int .i64 0],some [.int .i64,.int .i64,.int .i64,.int .i64,.int .i64,.int .i64]⟩),
 (31,⟨.struct [(0,1,false),(1,6,true),(7,1,false)],8,80,[.str [],.int .i64 0,.int .i64 0,.int .i64 0,.int .i64 0,.int .i64 0,.int .i64 0,.str []],some [.str,.int .i64,.int .i64,.int .i64,.int .i64,.int .i64,.int .i64,.str]⟩),
 (32,⟨.struct [(0,1,false),(1,6,true),(7,1,false)],8,80,[.str [],.int .i64 0,.int .i64 0,.int .i64 0,.int .i64 0,.int .i64 0,.int .i64 0,.str []],some [.str,.int .i64,.int .i64,.int .i64,.int .i64,.int .i64,.int .i64,.str]⟩),
 (33,⟨.slice 32,1,24,[.nilsl],none⟩),
 (51,⟨.struct [(0,1,false),(1,1,false)],2,32,[.str [],.str []],some [.str,.str]⟩),
 (52,⟨.struct [(0,1,false),(1,1,false)],2,32,[.str [],.str []],some [.str,.str]⟩),
 (63,⟨.ptr 105,1,8,[.nilp],none⟩),
 (65,⟨.slice 9,1,24,[.nilsl],none⟩),
 (92,⟨.slice 3,1,24,[.nilsl],some [.ints .i64]⟩),
 (104,⟨.struct [(0,1,false),(1,1,false)],2,32,[.nilsl,.int .i64 0],some [.ints .u8,.int .i64]⟩),
 (105,⟨.struct [(0,1,false),(1,1,false)],2,32,[.nilsl,.int .i64 0],some [.ints .u8,.int .i64]⟩),
 (107,⟨.ptr 109,1,8,[.nilp],none⟩),
 (108,⟨.struct [(0,1,false),(1,1,false)],2,32,[.nilp,.nilsl],none⟩),
 (109,⟨.struct [(0,1,false),(1,1,false)],2,32,[.nilp,.nilsl],none⟩),
 (119,⟨.int .u64,1,8,[.int .u64 0],some [.int .u64]⟩),
 (123,⟨.ptr 125,1,8,[.nilp],none⟩),
 (124,⟨.struct [(0,1,false),(1,1,false),(2,1,false)],3,32,[.str [],.int .i64 0,.bool false],some [.str,.int .i64,.bool]⟩),
 (125,⟨.struct [(0,1,false),(1,1,false),(2,1,false)],3,32,[.str [],.int .i64 0,.bool false],some [.str,.int .i64,.bool]⟩),
 (138,⟨.ptr 5,1,8,[.nilp],none⟩),
 (140,⟨.int .i64,1,8,[.int .i64 0],some [.int .i64]⟩),
 (147,⟨.int .u32,1,4,[.int .u32 0],some [.int .u32]⟩),
 (149,⟨.int .u64,1,8,[.int .u64 0],some [.int .u64]⟩),
 (155,⟨.map 190 3,1,8,[.undef],none⟩),
 (156,⟨.map 190 3,1,8,[.undef],none⟩),
 (159,⟨.struct [(0,1,false),(1,1,false)],2,48,[.nilsl,.nilsl],some [.ints .i64,.ints .i64]⟩),
 (160,⟨.struct [(0,1,false),(1,1,false)],2,48,[.nilsl,.nilsl],some [.ints .i64,.ints .i64]⟩),
 (162,⟨.struct [(0,1,false),(1,1,false),(2,1,false)],3,24,[.int .i64 0,.int .i64 0,.int .i64 0],some [.int .i64,.int .i64,.int .i64]⟩),
 (163,⟨.struct [(0,1,false),(1,1,false),(2,1,false)],3,24,[.int .i64 0,.int .i64 0,.int .i64 0],some [.int .i64,.int .i64,.int .i64]⟩),
 (167,⟨.ptr 169,1,8,[.nilp],none⟩),
 (168,⟨.struct [(0,1,false),(1,1,false)],2,32,[.nilsl,.int .i64 0],some [.ints .u8,.int .i64]⟩),
 (169,⟨.struct [(0,1,false),(1,1,false)],2,32,[.nilsl,.int .i64 0],some [.ints .u8,.int .i64]⟩),
 (172,⟨.slice 163,1,24,[.nilsl],none⟩),
 (182,⟨.int .u64,1,8,[.int .u64 0],some [.int .u64]⟩),
 (186,⟨.ptr 3,1,8,[.nilp],none⟩),
 (189,⟨.struct [(0,1,false),(1,1,false)],2,16,[.int .i64 0,.int .i64 0],some [.int .i64,.int .i64]⟩),
 (190,⟨.struct [(0,1,false),(1,1,false)],2,16,[.int .i64 0,.int .i64 0],some [.int .i64,.int .i64]⟩),
 (200,⟨.ptr 182,1,8,[.nilp],none⟩),
 (203,⟨.ptr 205,1,8,[.nilp],none⟩),
 (204,⟨.struct [(0,1,false),(1,1,false),(2,1,false)],3,32,[.str [],.int .i64 0,.bool false],some [.str,.int .i64,.bool]⟩),
 (205,⟨.struct [(0,1,false),(1,1,false),(2,1,false)],3,32,[.str [],.int .i64 0,.bool false],some [.str,.int .i64,.bool]⟩),
 (208,⟨.slice 210,1,24,[.nilsl],none⟩),
 (209,⟨.struct [(0,1,false),(1,1,false)],2,32,[.int .i64 0,.nilsl],some [.int .i64,.ints .i64]⟩),
 (210,⟨.struct [(0,1,false),(1,1,false)],2,32,[.int .i64 0,.nilsl],some [.int .i64,.ints .i64]⟩),
 (220,⟨.ptr 222,1,8,[.nilp],none⟩),
 (221,⟨.struct [(0,1,false),(1,1,false),(2,1,false)],3,40,[.nilsl,.int .i64 0,.int .i64 0],some [.ints .u8,.int .i64,.int .i64]⟩),
 (222,⟨.struct [(0,1,false),(1,1,false),(2,1,false)],3,40,[.nilsl,.int .i64 0,.int .i64 0],some [.ints .u8,.int .i64,.int .i64]⟩),
 (227,⟨.struct [(0,1,false),(1,1,false)],2,2,[.int .u8 0,.int .u8 0],some [.int .u8,.int .u8]⟩),
 (228,⟨.struct [(0,1,false),(1,1,false)],2,2,[.int .u8 0,.int .u8 0],some [.int .u8,.int .u8]⟩),
 (236,⟨.slice 238,1,24,[.nilsl],none⟩),
 (237,⟨.struct [(0,1,false),(1,1,false),(2,1,false)],3,40,[.int .i64 0,.int .i64 0,.nilsl],some [.int .i64,.int .i64,.ints .i64]⟩),
 (238,⟨.struct [(0,1,false),(1,1,false),(2,1,false)],3,40,[.int .i64 0,.int .i64 0,.nilsl],some [.int .i64,.int .i64,.ints .i64]⟩),
 (241,⟨.struct [(0,1,false),(1,1,false),(2,1,false),(3,1,false)],4,40,[.nilp,.nilp,.nilp,.str []],none⟩),
 (242,⟨.struct [(0,1,false),(1,1,false),(2,1,false),(3,1,false)],4,40,[.nilp,.nilp,.nilp,.str []],none⟩),
 (246,⟨.int .u8,1,1,[.int .u8 0],some [.int .u8]⟩),
 (247,⟨.int .u8,1,1,[.int .u8 0],some [.int .u8]⟩),
 (249,⟨.int .i32,1,4,[.int .i32 0],some [.int .i32]⟩),
 (250,⟨.int .i32,1,4,[.int .i32 0],some [.int .i32]⟩),
 (251,⟨.struct [(0,1,false),(1,1,false),(2,1,false),(3,1,false),(4,1,false),(5,1,false),(6,1,false),(7,1,false),(8,1,false),(9,1,false),(10,1,false)],11,48,[.int .u64 0,.int .u64 0,.int .u32 0,.int .u8 0,.int .u8 0,.int .u8 0,.int .u8 0,.undef,.nilp,.int .i32 0,.int .i32 0],none⟩),
 (252,⟨.struct [(0,1,false),(1,1,false),(2,1,false),(3,1,false),(4,1,false),(5,1,false),(6,1,false),(7,1,false),(8,1,false),(9,1,false),(10,1,false)],11,48,[.int .u64 0,.int .u64 0,.int .u32 0,.int .u8 0,.int .u8 0,.int .u8 0,.int .u8 0,.undef,.nilp,.int .i32 0,.int .i32 0],none⟩)]
theorem ZwU:tisC Tryz.prog Zyq=true:=by kernel_rfl
theorem nm:Tryz.prog.follows .mixedOrders=true:=by kernel_rfl
def eqTab:List (Nat×FT):=[(28,[.str,.str]),(32,[.str,.int .i64,.int .i64,.int .i64,.int .i64,.int .i64,.int .i64,.str]),(190,[.int .i64,.int .i64])]
theorem ZxO:eqsC Tryz.prog eqTab=true:=by kernel_rfl
theorem ZtZ:Zvk Tryz.prog Zyq=true:=by kernel_rfl
def Zv8:List (Nat×List AV):=[(0,[.ro [.int .i64] [16,17,18,0,8,7,9,6,10,5,11,4,12,3,13,2,14,1,15]]),(2,[.int .u64 1,.int .u64 10,.int .u64 100,.int .u64 1000,.int .u64 10000,.int .u64 100000,.int .u64 1000000,.int .u64 10000000,.int .u64 100000000,.int .u64 1000000000,.int .u64 10000000000,.int .u64 100000000000,.int .u64 1000000000000,.int .u64 10000000000000,.int .u64 100000000000000,.int .u64 1000000000000000,.int .u64 10000000000000000,.int .u64 100000000000000000,.int .u64 1000000000000000000,.int .u64 10000000000000000000])]
def C0:Ctx:=⟨ZuH Zyq,ZqW Zv8,eqOf eqTab⟩
theorem Za5:Zg2 Tryz.prog C0:=Zyr rfl ZwU nm rfl ZxO ZtZ
end Ev
end
section
open Go Go.Proofs
set_option maxRecDepth 100000
namespace Ev
set_option maxHeartbeats 1000000
def Zbt.S:ZaK:=⟨0,[.sc (.int .i64),.sc (.int .i64),.sc (.int .i64)],[],[.int .i64,.int .i64,.int .i64],⟨[.bool],.sc .bool,[]⟩,
 fun ((n,low,high):Int×Int×Int)=>Zbt n low high⟩
theorem Zbt.ev:∀d,Za4 C0 (hnd (tab [])) Tryz.f104 (.seq .u (.seq (.reg [.bool] [(6,.sc .bool)]) .u)) Zbt.S d=Zbt.S.F d:=fun _=>by kernel_rfl
theorem Zbt.sound:Zah Tryz.prog C0 104 Zbt.S:=sE Za5 Zbt.ev (Zai trivial) Tryz.func104
def ZcX.S:ZaK:=⟨0,[.sc .str],[],[.str],⟨[.bool],.sc .bool,[]⟩,
 fun (s:Str)=>ZcX s⟩
theorem ZcX.ev:∀d,Za4 C0 (hnd (tab [(104,Zbt.S)])) Tryz.f96 (.seq .u (.seq (.seq .u (.blk (.loopS ⟨[.str,.int .i64,.int .i64],[(0,.sc .str),(6,.sc (.int .i64)),(7,.sc (.int .i64))],[]⟩ (fun ((s1,t,t1):Str×Int×Int)=>(t-t1).toNat+1) 0 ⟨[.str],[(0,.sc .str)],[]⟩ (.seq .u (.seq .u (.seq (.blk (.seq .u (.seq .u (.seq (.reg [.bool] [(38,.sc .bool)]) .u)))) .u)))))) (.seq (.reg [.bool] [(2,.sc .bool)]) .u))) ZcX.S d=ZcX.S.F d:=fun _=>by kernel_rfl
theorem ZcX.sound:Zah Tryz.prog C0 96 ZcX.S:=sE Za5 ZcX.ev (Zai ⟨Zbt.sound,trivial⟩) Tryz.func96
def Zhc.S:ZaK:=⟨0,[.sc (.int .i64),.sc (.int .i64),.sc (.int .i64)],[],[.int .i64,.int .i64,.int .i64],⟨[.bool],.sc .bool,[]⟩,
 fun ((n,low,high):Int×Int×Int)=>Zhc n low high⟩
theorem Zhc.ev:∀d,Za4 C0 (hnd (tab [])) Tryz.f88 (.seq .u (.seq (.reg [.bool] [(6,.sc .bool)]) .u)) Zhc.S d=Zhc.S.F d:=fun _=>by kernel_rfl
theorem Zhc.sound:Zah Tryz.prog C0 88 Zhc.S:=sE Za5 Zhc.ev (Zai trivial) Tryz.func88
def Zdk.S:ZaK:=⟨0,[.sc .str,.sc (.int .u8),.sc (.int .i64)],[],[.str,.int .u8,.int .i64],⟨[.list [.str]],.full 0,[.arr [.str]]⟩,
 fun ((s,b,most):Str×Int×Int)=>Zdk s b most⟩
theorem Zdk.ev:∀d,Za4 C0 (hnd (tab [])) Tryz.f85 (.seq .u (.seq .u (.seq .u (.seq (.seq .u (.blk (.loop ⟨[.str,.int .u8,.int .i64,.int .i64,.int .i64,.list [.str]],[(0,.sc .str),(1,.sc (.int .u8)),(2,.sc (.int .i64)),(7,.full 0),(8,.sc (.int .i64)),(9,.sc (.int .i64))],[.arr [.str]]⟩ (fun ((s1,b1,most1,from_,i,out):Str×Int×Int×Int×Int×List Str)=>((s1.length:Int)-i).toNat+1) 0 ⟨[.str,.int .i64,.list [.str]],[(0,.sc .str),(7,.full 0),(8,.sc (.int .i64))],[.arr [.str]]⟩ (.seq (.seq (.reg [.bool] [(20,.sc .bool)]) .u) .u)))) .u)))) Zdk.S d=Zdk.S.F d:=fun _=>by kernel_rfl
theorem Zdk.sound:Zah Tryz.prog C0 85 Zdk.S:=sE Za5 Zdk.ev (Zai trivial) Tryz.func85
def Zar.S:ZaK:=⟨0,[.sc .str],[],[.str],⟨[.bool],.sc .bool,[]⟩,
 fun (s:Str)=>Zar s⟩
theorem Zar.ev:∀d,Za4 C0 (hnd (tab [(85,Zdk.S),(88,Zhc.S)])) Tryz.f51 (.seq .u (.seq .u (.seq (.seq .u (.blk (.loopS ⟨[.int .i64,.list [.str]],[(3,.full 0),(4,.sc (.int .i64))],[.arr [.str]]⟩ (fun ((i,list):Int×List Str)=>((list.length:Int)-i).toNat+1) 0 ⟨[.list [.str]],[(3,.full 0)],[.arr [.str]]⟩ (.seq .u (.seq (.blk (.seq .u (.seq (.seq .u (.blk (.loopS ⟨[.int .i64,.str,.int .i64,.list [.str]],[(3,.full 0),(4,.sc (.int .i64)),(5,.sc .str),(6,.sc (.int .i64))],[.arr [.str]]⟩ (fun ((i1,w,k,list1):Int×Str×Int×List Str)=>((w.length:Int)-k).toNat+1) 2 ⟨[.int .i64,.str,.list [.str]],[(3,.full 0),(4,.sc (.int .i64)),(5,.sc .str)],[.arr [.str]]⟩ (.seq .u (.seq (.blk (.seq (.reg [.bool] [(68,.sc .bool)]) .u)) .u))))) (.seq (.reg [.bool] [(80,.sc .bool)]) .u)))) .u))))) .u))) Zar.S d=Zar.S.F d:=fun _=>by kernel_rfl
theorem Zar.sound:Zah Tryz.prog C0 51 Zar.S:=sE Za5 Zar.ev (Zai ⟨Zdk.sound,Zhc.sound,trivial⟩) Tryz.func51
def Zdf.S:ZaK:=⟨0,[.sc .str,.sc .str],[],[.str,.str],⟨[.bool],.sc .bool,[]⟩,
 fun ((a,b):Str×Str)=>Zdf a b⟩
theorem Zdf.ev:∀d,Za4 C0 (hnd (tab [])) Tryz.f52 (.seq .u (.seq (.reg [.bool] [(4,.sc .bool)]) .u)) Zdf.S d=Zdf.S.F d:=fun _=>by kernel_rfl
theorem Zdf.sound:Zah Tryz.prog C0 52 Zdf.S:=sE Za5 Zdf.ev (Zai trivial) Tryz.func52
def Zcx.S:ZaK:=⟨0,[.sc .str,.sc .str],[],[.str,.str],⟨[.bool],.sc .bool,[]⟩,
 fun ((s,p):Str×Str)=>Zcx s p⟩
theorem Zcx.ev:∀d,Za4 C0 (hnd (tab [])) Tryz.f106 (.seq .u (.seq (.reg [.bool] [(4,.sc .bool)]) .u)) Zcx.S d=Zcx.S.F d:=fun _=>by kernel_rfl
theorem Zcx.sound:Zah Tryz.prog C0 106 Zcx.S:=sE Za5 Zcx.ev (Zai trivial) Tryz.func106
def ZcB.S:ZaK:=⟨0,[.sc .str,.sc .str],[],[.str,.str],⟨[.bool],.sc .bool,[]⟩,
 fun ((s,p):Str×Str)=>ZcB s p⟩
theorem ZcB.ev:∀d,Za4 C0 (hnd (tab [(106,Zcx.S)])) Tryz.f61 .u ZcB.S d=ZcB.S.F d:=fun _=>by kernel_rfl
theorem ZcB.sound:Zah Tryz.prog C0 61 ZcB.S:=sE Za5 ZcB.ev (Zai ⟨Zcx.sound,trivial⟩) Tryz.func61
def ZbT.S:ZaK:=Zi2
theorem ZbT.sound:Zah Tryz.prog C0 215 ZbT.S:=Zl5 Tryz.func215 (by kernel_rfl) (by kernel_rfl) (by kernel_rfl) (by kernel_rfl)
def ZdG.S:ZaK:=Zjg
theorem ZdG.sound:Zah Tryz.prog C0 202 ZdG.S:=Zmy Tryz.func202 (by kernel_rfl) (by kernel_rfl) (by kernel_rfl) (by kernel_rfl)
def Zbi.S:ZaK:=⟨0,[.sc .str,.sc (.int .u8)],[],[.str,.int .u8],⟨[.int .i64],.sc (.int .i64),[]⟩,
 fun ((s,c):Str×Int)=>Zbi s c⟩
theorem Zbi.ev:∀d,Za4 C0 (hnd (tab [(215,ZbT.S)])) Tryz.f196 .u Zbi.S d=Zbi.S.F d:=fun _=>by kernel_rfl
theorem Zbi.sound:Zah Tryz.prog C0 196 Zbi.S:=sE Za5 Zbi.ev (Zai ⟨ZbT.sound,trivial⟩) Tryz.func196
def Zdg.S:ZaK:=⟨0,[.sc .str,.cstr [47]],[],[.str],⟨[.int .i64],.sc (.int .i64),[]⟩,
 fun (s:Str)=>Zdg s⟩
theorem Zdg.ev:∀d,Za4 C0 (hnd (tab [(196,Zbi.S)])) Tryz.f173 (.seq .u (.seq .u (.seq (.blk (.seq (.reg [.bool] [(16,.sc .bool)]) .u)) .u))) Zdg.S d=Zdg.S.F d:=fun _=>by kernel_rfl
theorem Zdg.sound:Zah Tryz.prog C0 173 Zdg.S:=sE Za5 Zdg.ev (Zai ⟨Zbi.sound,trivial⟩) Tryz.func173
def ZfX.S:ZaK:=⟨0,[.sc .str,.cstr [47]],[],[.str],⟨[.int .i64],.sc (.int .i64),[]⟩,
 fun (s:Str)=>ZfX s⟩
theorem ZfX.ev:∀d,Za4 C0 (hnd (tab [(173,Zdg.S)])) Tryz.f176 .u ZfX.S d=ZfX.S.F d:=fun _=>by kernel_rfl
theorem ZfX.sound:Zah Tryz.prog C0 176 ZfX.S:=sE Za5 ZfX.ev (Zai ⟨Zdg.sound,trivial⟩) Tryz.func176
def ZgB.S:ZaK:=⟨0,[.sc .str,.cstr [47]],[],[.str],⟨[.int .i64],.sc (.int .i64),[]⟩,
 fun (s:Str)=>ZgB s⟩
theorem ZgB.ev:∀d,Za4 C0 (hnd (tab [(202,ZdG.S)])) Tryz.f175 .u ZgB.S d=ZgB.S.F d:=fun _=>by kernel_rfl
theorem ZgB.sound:Zah Tryz.prog C0 175 ZgB.S:=sE Za5 ZgB.ev (Zai ⟨ZdG.sound,trivial⟩) Tryz.func175
def Zbg.S:ZaK:=⟨0,[.sc .str,.cstr [47],.cint .i64 0,.cint .i64 (-1)],[],[.str],⟨[.list [.str]],.sc (.list [.str]),[]⟩,
 fun (s:Str)=>Zbg s⟩
theorem Zbg.ev:∀d,Za4 C0 (hnd (tab [(175,ZgB.S),(176,ZfX.S)])) Tryz.f136 (.seq .u (.seq .u (.seq .u (.join ⟨[.str,.int .i64],[(0,.sc .str),(1,.cstr [47]),(2,.cint .i64 0),(3,.sc (.int .i64))],[]⟩ .u (.seq .u (.seq .u (.seq .u (.seq .u (.seq (.blk (.loop ⟨[.str,.int .i64,.int .i64,.list [.str]],[(0,.sc .str),(1,.cstr [47]),(2,.cint .i64 0),(3,.sc (.int .i64)),(9,.full 0),(10,.sc (.int .i64))],[.arr [.str]]⟩ (fun ((s2,n1,i,a):Str×Int×Int×List Str)=>(n1-i).toNat+1) 0 ⟨[.str,.int .i64,.list [.str]],[(0,.sc .str),(9,.full 0),(10,.sc (.int .i64))],[.arr [.str]]⟩ .u)) .u))))))))) Zbg.S d=Zbg.S.F d:=fun _=>by kernel_rfl
theorem Zbg.sound:Zah Tryz.prog C0 136 Zbg.S:=sE Za5 Zbg.ev (Zai ⟨ZgB.sound,ZfX.sound,trivial⟩) Tryz.func136
def ZfP.S:ZaK:=⟨0,[.sc .str,.cstr [47]],[],[.str],⟨[.list [.str]],.sc (.list [.str]),[]⟩,
 fun (s:Str)=>ZfP s⟩
theorem ZfP.ev:∀d,Za4 C0 (hnd (tab [(136,Zbg.S)])) Tryz.f95 .u ZfP.S d=ZfP.S.F d:=fun _=>by kernel_rfl
theorem ZfP.sound:Zah Tryz.prog C0 95 ZfP.S:=sE Za5 ZfP.ev (Zai ⟨Zbg.sound,trivial⟩) Tryz.func95
def Za1.S:ZaK:=⟨0,[.sc .str],[],[.str],⟨[.bool],.sc .bool,[]⟩,
 fun (s:Str)=>Za1 s⟩
theorem Za1.ev:∀d,Za4 C0 (hnd (tab [(95,ZfP.S),(96,ZcX.S)])) Tryz.f49 (.seq .u (.seq .u (.seq (.seq .u (.blk (.loopS ⟨[.list [.str],.list [.str],.int .i64,.int .i64],[(3,.sc (.list [.str])),(8,.sc (.list [.str])),(9,.sc (.int .i64)),(10,.sc (.int .i64))],[]⟩ (fun ((parts,t,t1,t2):List Str×List Str×Int×Int)=>(t1-t2).toNat+1) 0 ⟨[.list [.str]],[(3,.sc (.list [.str]))],[]⟩ .u))) .u))) Za1.S d=Za1.S.F d:=fun _=>by kernel_rfl
theorem Za1.sound:Zah Tryz.prog C0 49 Za1.S:=sE Za5 Za1.ev (Zai ⟨ZfP.sound,ZcX.sound,trivial⟩) Tryz.func49
def Zc7.S:ZaK:=⟨0,[.sc (.list [.str])],[],[.list [.str]],⟨[.bool],.sc .bool,[]⟩,
 fun (xs:List Str)=>Zc7 xs⟩
theorem Zc7.ev:∀d,Za4 C0 (hnd (tab [(61,ZcB.S)])) Tryz.f50 (.seq .u (.seq (.seq .u (.blk (.loopS ⟨[.list [.str],.list [.str],.int .i64,.int .i64],[(0,.sc (.list [.str])),(7,.sc (.list [.str])),(8,.sc (.int .i64)),(9,.sc (.int .i64))],[]⟩ (fun ((names,t,t1,t2):List Str×List Str×Int×Int)=>(t1-t2).toNat+1) 0 ⟨[],[],[]⟩ (.seq .u (.seq .u (.seq (.blk (.seq .u (.seq .u (.blk (.loopS ⟨[.list [.str],.str,.list [.str],.int .i64,.int .i64,.list [.str],.int .i64,.int .i64],[(0,.sc (.list [.str])),(4,.sc .str),(7,.sc (.list [.str])),(8,.sc (.int .i64)),(9,.sc (.int .i64)),(16,.sc (.list [.str])),(17,.sc (.int .i64)),(18,.sc (.int .i64))],[]⟩ (fun ((names1,a,t3,t4,t5,t6,t7,t8):List Str×Str×List Str×Int×Int×List Str×Int×Int)=>(t7-t8).toNat+1) 2 ⟨[.list [.str],.list [.str],.int .i64,.int .i64],[(0,.sc (.list [.str])),(7,.sc (.list [.str])),(8,.sc (.int .i64)),(9,.sc (.int .i64))],[]⟩ (.seq .u (.seq .u (.seq (.blk (.seq .u (.seq (.reg [.bool] [(36,.sc .bool)]) .u))) .u)))))))) .u)))))) .u)) Zc7.S d=Zc7.S.F d:=fun _=>by kernel_rfl
theorem Zc7.sound:Zah Tryz.prog C0 50 Zc7.S:=sE Za5 Zc7.ev (Zai ⟨ZcB.sound,trivial⟩) Tryz.func50
def Zec.S:ZaK:=⟨0,[.agg [.sc (.int .i64),.sc (.int .i64)]],[],[.int .i64,.int .i64],⟨[.bool],.sc .bool,[]⟩,
 fun ((num,bits):Int×Int)=>Zec num bits⟩
theorem Zec.ev:∀d,Za4 C0 (hnd (tab [(104,Zbt.S)])) Tryz.f210 (.seq .u (.seq (.reg [.bool] [(2,.sc .bool)]) .u)) Zec.S d=Zec.S.F d:=fun _=>by kernel_rfl
theorem Zec.sound:Zah Tryz.prog C0 210 Zec.S:=sE Za5 Zec.ev (Zai ⟨Zbt.sound,trivial⟩) Tryz.func210
def ZeL.S:ZaK:=⟨1,[.ptr 0 0,.sc (.int .i64),.sc (.int .i64)],[.box [.full 1,.sc (.int .i64)],.arr [.int .u8]],[.int .i64,.int .i64,.int .i64,.list [.int .u8]],⟨[.int .i64,.list [.int .u8]],.tup [],[.box [.full 1,.sc (.int .i64)],.arr [.int .u8]]⟩,
 fun ((num,bits,many,b):Int×Int×Int×List Int)=>ZeL num bits many b⟩
theorem ZeL.ev:∀d,Za4 C0 (hnd (tab [])) Tryz.f162 (.seq .u (.blk (.loop ⟨[.int .i64,.int .i64,.int .i64,.int .i64,.list [.int .u8]],[(0,.ptr 0 0),(1,.sc (.int .i64)),(7,.sc (.int .i64)),(8,.sc (.int .i64))],[.box [.full 1,.sc (.int .i64)],.arr [.int .u8]]⟩ (fun ((num1,t,t1,o,o1):Int×Int×Int×Int×List Int)=>(t-t1).toNat+1) 0 ⟨[.int .i64,.list [.int .u8]],[],[.box [.full 1,.sc (.int .i64)],.arr [.int .u8]]⟩ (.seq .u (.seq .u (.seq (.blk (.seq .u (.join ⟨[.int .i64,.int .i64,.int .i64,.int .i64,.int .i64,.list [.int .u8]],[(0,.ptr 0 0),(1,.sc (.int .i64)),(6,.sc (.int .i64)),(7,.sc (.int .i64)),(8,.sc (.int .i64))],[.box [.full 1,.sc (.int .i64)],.arr [.int .u8]]⟩ .u .u))) .u)))))) ZeL.S d=ZeL.S.F d:=fun _=>by kernel_rfl
theorem ZeL.sound:Zah Tryz.prog C0 162 ZeL.S:=sE Za5 ZeL.ev (Zai trivial) Tryz.func162
def Zju.S:ZaK:=⟨1,[.ptr 0 0],[.box [.full 1,.sc (.int .i64)],.arr [.int .u8]],[.int .i64,.list [.int .u8]],⟨[.int .i64,.list [.int .u8]],.tup [],[.box [.full 1,.sc (.int .i64)],.arr [.int .u8]]⟩,
 fun ((many,b):Int×List Int)=>Zju many b⟩
theorem Zju.ev:∀d,Za4 C0 (hnd (tab [])) Tryz.f163 .u Zju.S d=Zju.S.F d:=fun _=>by kernel_rfl
theorem Zju.sound:Zah Tryz.prog C0 163 Zju.S:=sE Za5 Zju.ev (Zai trivial) Tryz.func163
def Zik.S:ZaK:=⟨1,[.ptr 0 0],[.box [.sc .str,.sc (.int .i64),.sc .bool]],[.str,.int .i64,.bool],⟨[.int .i64,.str,.int .i64,.bool],.sc (.int .i64),[.box [.sc .str,.sc (.int .i64),.sc .bool]]⟩,
 fun ((s,at_,bad):Str×Int×Bool)=>Zik s at_ bad⟩
theorem Zik.ev:∀d,Za4 C0 (hnd (tab [])) Tryz.f112 .u Zik.S d=Zik.S.F d:=fun _=>by kernel_rfl
theorem Zik.sound:Zah Tryz.prog C0 112 Zik.S:=sE Za5 Zik.ev (Zai trivial) Tryz.func112
def ZeO.S:ZaK:=⟨1,[.ptr 0 0,.sc (.int .i64)],[.box [.sc .str,.sc (.int .i64),.sc .bool]],[.int .i64,.str,.int .i64,.bool],⟨[.int .i64,.str,.int .i64,.bool],.sc (.int .i64),[.box [.sc .str,.sc (.int .i64),.sc .bool]]⟩,
 fun ((bits,s,at_,bad):Int×Str×Int×Bool)=>ZeO bits s at_ bad⟩
theorem ZeO.ev:∀d,Za4 C0 (hnd (tab [(112,Zik.S)])) Tryz.f113 (.seq .u (.seq .u (.seq (.seq .u (.blk (.loop ⟨[.int .i64,.int .i64,.int .i64,.str,.int .i64,.bool],[(0,.ptr 0 0),(5,.sc (.int .i64)),(7,.sc (.int .i64)),(8,.sc (.int .i64))],[.box [.sc .str,.sc (.int .i64),.sc .bool]]⟩ (fun ((n,t,t1,o,o1,o2):Int×Int×Int×Str×Int×Bool)=>(t-t1).toNat+1) 0 ⟨[.int .i64,.str,.int .i64,.bool],[(5,.sc (.int .i64))],[.box [.sc .str,.sc (.int .i64),.sc .bool]]⟩ .u))) .u))) ZeO.S d=ZeO.S.F d:=fun _=>by kernel_rfl
theorem ZeO.sound:Zah Tryz.prog C0 113 ZeO.S:=sE Za5 ZeO.ev (Zai ⟨Zik.sound,trivial⟩) Tryz.func113
def Zd7.S:ZaK:=⟨1,[.ptr 0 0],[.box [.sc .str,.sc (.int .i64),.sc .bool]],[.str,.int .i64,.bool],⟨[.str,.int .i64,.bool],.tup [],[.box [.sc .str,.sc (.int .i64),.sc .bool]]⟩,
 fun ((s,at_,bad):Str×Int×Bool)=>Zd7 s at_ bad⟩
theorem Zd7.ev:∀d,Za4 C0 (hnd (tab [(112,Zik.S)])) Tryz.f118 (.blk (.loop ⟨[.str,.int .i64,.bool],[(0,.ptr 0 0)],[.box [.sc .str,.sc (.int .i64),.sc .bool]]⟩ (fun ((o,o1,o2):Str×Int×Bool)=>9) 0 ⟨[.str,.int .i64,.bool],[],[.box [.sc .str,.sc (.int .i64),.sc .bool]]⟩ .u)) Zd7.S d=Zd7.S.F d:=fun _=>by kernel_rfl
theorem Zd7.sound:Zah Tryz.prog C0 118 Zd7.S:=sE Za5 Zd7.ev (Zai ⟨Zik.sound,trivial⟩) Tryz.func118
def Zby.S:ZaK:=⟨0,[.sc (.int .i64),.sc (.int .i64)],[],[.int .i64,.int .i64],⟨[.int .i64],.sc (.int .i64),[]⟩,
 fun ((num,bits):Int×Int)=>Zby num bits⟩
theorem Zby.ev:∀d,Za4 C0 (hnd (tab [(210,Zec.S)])) Tryz.f191 (.seq .u (.seq .u (.seq .u (.seq (.seq .u (.blk (.loop ⟨[.int .i64,.int .i64,.int .i64,.int .i64],[(0,.sc (.int .i64)),(5,.sc (.int .i64)),(12,.sc (.int .i64)),(13,.sc (.int .i64))],[]⟩ (fun ((num1,out,t,t1):Int×Int×Int×Int)=>(t-t1).toNat+1) 0 ⟨[.int .i64],[(5,.sc (.int .i64))],[]⟩ .u))) .u)))) Zby.S d=Zby.S.F d:=fun _=>by kernel_rfl
theorem Zby.sound:Zah Tryz.prog C0 191 Zby.S:=sE Za5 Zby.ev (Zai ⟨Zec.sound,trivial⟩) Tryz.func191
def ZaD.S:ZaK:=⟨0,[.sc (.int .u32),.sc .str],[],[.int .u32,.str],⟨[.int .u32],.sc (.int .u32),[]⟩,
 fun ((crc_,text):Int×Str)=>ZaD crc_ text⟩
theorem ZaD.ev:∀d,Za4 C0 (hnd (tab [])) Tryz.f159 (.seq .u (.seq .u (.seq (.seq .u (.blk (.loop ⟨[.int .u32,.str,.int .i64],[(0,.sc (.int .u32)),(1,.sc .str),(5,.sc (.int .i64))],[]⟩ (fun ((crc_1,text1,k):Int×Str×Int)=>((text1.length:Int)-k).toNat+1) 0 ⟨[.int .u32],[(0,.sc (.int .u32))],[]⟩ (.seq .u (.seq (.blk (.seq .u (.seq .u (.blk (.loop ⟨[.int .u32,.str,.int .i64,.int .i64],[(0,.sc (.int .u32)),(1,.sc .str),(5,.sc (.int .i64)),(20,.sc (.int .i64))],[]⟩ (fun ((crc_2,text2,k1,t):Int×Str×Int×Int)=>(8-t).toNat+1) 2 ⟨[.int .u32,.str,.int .i64],[(0,.sc (.int .u32)),(1,.sc .str),(5,.sc (.int .i64))],[]⟩ .u))))) .u))))) .u))) ZaD.S d=ZaD.S.F d:=fun _=>by kernel_rfl
theorem ZaD.sound:Zah Tryz.prog C0 159 ZaD.S:=sE Za5 ZaD.ev (Zai trivial) Tryz.func159
def crc.S:ZaK:=⟨0,[.sc .str],[],[.str],⟨[.int .i64],.sc (.int .i64),[]⟩,
 fun (text:Str)=>crc text⟩
theorem crc.ev:∀d,Za4 C0 (hnd (tab [(159,ZaD.S)])) Tryz.f119 .u crc.S d=crc.S.F d:=fun _=>by kernel_rfl
theorem crc.sound:Zah Tryz.prog C0 119 crc.S:=sE Za5 crc.ev (Zai ⟨ZaD.sound,trivial⟩) Tryz.func119
def Zb1.S:ZaK:=⟨0,[.sc (.list [.int .i64])],[],[.list [.int .i64]],⟨[.bool],.sc .bool,[]⟩,
 fun (lens:List Int)=>Zb1 lens⟩
theorem Zb1.ev:∀d,Za4 C0 (hnd (tab [(104,Zbt.S)])) Tryz.f153 (.seq .u (.seq .u (.seq .u (.seq (.seq .u (.blk (.loopS ⟨[.int .i64,.int .i64,.int .i64,.list [.int .i64],.int .i64,.int .i64],[(3,.sc (.int .i64)),(4,.sc (.int .i64)),(5,.sc (.int .i64)),(11,.sc (.list [.int .i64])),(12,.sc (.int .i64)),(13,.sc (.int .i64))],[]⟩ (fun ((sum,many,last,t,t1,t2):Int×Int×Int×List Int×Int×Int)=>(t1-t2).toNat+1) 0 ⟨[.int .i64,.int .i64,.int .i64],[(3,.sc (.int .i64)),(4,.sc (.int .i64)),(5,.sc (.int .i64))],[]⟩ .u))) (.seq (.reg [.bool] [(2,.sc .bool)]) .u))))) Zb1.S d=Zb1.S.F d:=fun _=>by kernel_rfl
theorem Zb1.sound:Zah Tryz.prog C0 153 Zb1.S:=sE Za5 Zb1.ev (Zai ⟨Zbt.sound,trivial⟩) Tryz.func153
def Zct.S:ZaK:=⟨0,[.sc (.list [.int .i64])],[],[.list [.int .i64]],⟨[.list [.int .i64]],.full 0,[.arr [.int .i64]]⟩,
 fun (lens:List Int)=>Zct lens⟩
theorem Zct.ev:∀d,Za4 C0 (hnd (tab [])) Tryz.f169 (.seq .u (.seq .u (.seq .u (.seq (.seq .u (.blk (.loop ⟨[.list [.int .i64],.int .i64,.int .i64,.list [.int .i64]],[(0,.sc (.list [.int .i64])),(3,.full 0),(4,.sc (.int .i64)),(5,.sc (.int .i64))],[.arr [.int .i64]]⟩ (fun ((lens1,next_,l,out):List Int×Int×Int×List Int)=>(15-l).toNat+2) 0 ⟨[.list [.int .i64]],[(3,.full 0)],[.arr [.int .i64]]⟩ (.seq .u (.seq (.blk (.seq (.seq .u (.blk (.loop ⟨[.list [.int .i64],.int .i64,.int .i64,.list [.int .i64],.int .i64,.int .i64,.list [.int .i64]],[(0,.sc (.list [.int .i64])),(3,.full 0),(4,.sc (.int .i64)),(5,.sc (.int .i64)),(15,.sc (.list [.int .i64])),(16,.sc (.int .i64)),(17,.sc (.int .i64))],[.arr [.int .i64]]⟩ (fun ((lens2,next_1,l1,t,t1,t2,out1):List Int×Int×Int×List Int×Int×Int×List Int)=>(t1-t2).toNat+1) 2 ⟨[.list [.int .i64],.int .i64,.int .i64,.list [.int .i64]],[(0,.sc (.list [.int .i64])),(3,.full 0),(4,.sc (.int .i64)),(5,.sc (.int .i64))],[.arr [.int .i64]]⟩ .u))) .u)) .u))))) .u)))) Zct.S d=Zct.S.F d:=fun _=>by kernel_rfl
theorem Zct.sound:Zah Tryz.prog C0 169 Zct.S:=sE Za5 Zct.ev (Zai trivial) Tryz.func169
def Za0.S:ZaK:=⟨0,[.sc (.list [.int .i64,.ints .i64])],[],[.list [.int .i64,.ints .i64]],⟨[.int .i64,.list [.int .i64],.list [.int .i64,.ints .i64]],.tup [.agg [.sc (.int .i64),.sc (.list [.int .i64])],.full 0],[.arr [.int .i64,.ints .i64]]⟩,
 fun (list:List (Int×List Int))=>Za0 list⟩
theorem Za0.ev:∀d,Za4 C0 (hnd (tab [])) Tryz.f209 (.seq .u (.seq .u (.seq (.seq .u (.blk (.loop ⟨[.list [.int .i64,.ints .i64],.int .i64,.list [.int .i64,.ints .i64],.int .i64,.int .i64,.int .i64,.list [.int .i64]],[(0,.sc (.list [.int .i64,.ints .i64])),(2,.ptr 0 0),(4,.sc (.int .i64)),(8,.sc (.list [.int .i64,.ints .i64])),(9,.sc (.int .i64)),(10,.sc (.int .i64))],[.box [.sc (.int .i64),.full 1],.arr [.int .i64]]⟩ (fun ((list1,at_,t,t1,t2,o,o1):(List (Int×List Int))×Int×(List (Int×List Int))×Int×Int×Int×List Int)=>(t1-t2).toNat+1) 0 ⟨[.list [.int .i64,.ints .i64],.int .i64,.int .i64,.list [.int .i64]],[(0,.sc (.list [.int .i64,.ints .i64])),(2,.ptr 0 0),(4,.sc (.int .i64))],[.box [.sc (.int .i64),.full 1],.arr [.int .i64]]⟩ (.seq .u (.seq .u (.seq (.blk (.seq .u (.seq (.reg [.bool] [(46,.sc .bool)]) .u))) .u)))))) .u))) Za0.S d=Za0.S.F d:=fun _=>by kernel_rfl
theorem Za0.sound:Zah Tryz.prog C0 209 Za0.S:=sE Za5 Za0.ev (Zai trivial) Tryz.func209
def Zbh.S:ZaK:=⟨0,[.sc (.list [.int .i64])],[],[.list [.int .i64]],⟨[.list [.int .i64]],.full 0,[.arr [.int .i64]]⟩,
 fun (counts:List Int)=>Zbh counts⟩
theorem Zbh.ev:∀d,Za4 C0 (hnd (tab [(209,Za0.S)])) Tryz.f190 (.seq .u (.seq .u (.seq .u (.seq (.seq .u (.blk (.loop ⟨[.list [.int .i64],.int .i64,.int .i64,.list [.int .i64],.list [.int .i64,.ints .i64]],[(3,.full 0),(4,.full 1),(18,.sc (.list [.int .i64])),(19,.sc (.int .i64)),(20,.sc (.int .i64))],[.arr [.int .i64],.arr [.int .i64,.ints .i64]]⟩ (fun ((t,t1,t2,out,list):List Int×Int×Int×List Int×List (Int×List Int))=>(t1-t2).toNat+1) 0 ⟨[.list [.int .i64],.list [.int .i64,.ints .i64]],[(3,.full 0),(4,.full 1)],[.arr [.int .i64],.arr [.int .i64,.ints .i64]]⟩ .u))) (.seq .u (.seq (.blk (.loop ⟨[.list [.int .i64],.list [.int .i64,.ints .i64]],[(3,.full 0),(4,.full 1)],[.arr [.int .i64],.arr [.int .i64,.ints .i64]]⟩ (fun ((out2,list2):List Int×List (Int×List Int))=>((list2.length:Int)-1).toNat+1) 2 ⟨[.list [.int .i64]],[(3,.full 0)],[.arr [.int .i64]]⟩ (.seq .u (.blk (.seq .u (.seq .u (.seq .u (.seq (.seq .u (.blk (.loop ⟨[.int .i64,.int .i64,.list [.int .i64],.int .i64,.list [.int .i64],.int .i64,.list [.int .i64],.list [.int .i64,.ints .i64],.list [.int .i64]],[(3,.full 0),(7,.ptr 1 0),(9,.ptr 2 0),(10,.full 3),(11,.full 4),(67,.full 4),(68,.sc (.int .i64)),(69,.sc (.int .i64))],[.arr [.int .i64],.box [.sc (.int .i64),.sc (.list [.int .i64])],.box [.sc (.int .i64),.sc (.list [.int .i64])],.arr [.int .i64,.ints .i64],.arr [.int .i64]]⟩ (fun ((t3,t4,out3,o,o1,o2,o3,left,o4):Int×Int×List Int×Int×List Int×Int×List Int×(List (Int×List Int))×List Int)=>(t3-t4).toNat+1) 4 ⟨[.list [.int .i64],.int .i64,.list [.int .i64],.int .i64,.list [.int .i64],.list [.int .i64,.ints .i64],.list [.int .i64]],[(3,.full 0),(7,.ptr 1 0),(9,.ptr 2 0),(10,.full 3),(11,.full 4)],[.arr [.int .i64],.box [.sc (.int .i64),.sc (.list [.int .i64])],.box [.sc (.int .i64),.sc (.list [.int .i64])],.arr [.int .i64,.ints .i64],.arr [.int .i64]]⟩ .u))) .u)))))))) .u)))))) Zbh.S d=Zbh.S.F d:=fun _=>by kernel_rfl
theorem Zbh.sound:Zah Tryz.prog C0 190 Zbh.S:=sE Za5 Zbh.ev (Zai ⟨Za0.sound,trivial⟩) Tryz.func190
def ZaV.S:ZaK:=⟨0,[.sc (.list [.int .i64]),.sc (.int .i64)],[],[.list [.int .i64],.int .i64],⟨[.list [.int .i64]],.full 0,[.arr [.int .i64]]⟩,
 fun ((counts,most):List Int×Int)=>ZaV counts most⟩
theorem ZaV.ev:∀d,Za4 C0 (hnd (tab [(104,Zbt.S),(190,Zbh.S)])) Tryz.f168 (.seq .u (.seq (.seq (.reg [.bool] [(21,.sc .bool)]) .u) (.seq .u (.seq .u (.seq (.seq .u (.blk (.loopS ⟨[.int .i64,.int .i64,.list [.int .i64],.int .i64,.int .i64,.list [.int .i64]],[(1,.sc (.int .i64)),(5,.full 0),(6,.sc (.int .i64)),(24,.sc (.list [.int .i64])),(25,.sc (.int .i64)),(26,.sc (.int .i64))],[.arr [.int .i64]]⟩ (fun ((most1,many,t,t1,t2,now):Int×Int×List Int×Int×Int×List Int)=>(t1-t2).toNat+1) 0 ⟨[.int .i64,.int .i64,.list [.int .i64]],[(1,.sc (.int .i64)),(5,.full 0),(6,.sc (.int .i64))],[.arr [.int .i64]]⟩ .u))) (.seq .u (.blk (.loopS ⟨[.int .i64,.list [.int .i64]],[(1,.sc (.int .i64)),(5,.full 0)],[.arr [.int .i64]]⟩ (fun ((most3,now2):Int×List Int)=>100000) 9999 ⟨[],[],[]⟩ (.blk (.seq .u (.seq .u (.seq (.seq .u (.blk (.loop ⟨[.int .i64,.int .i64,.int .i64,.int .i64,.list [.int .i64],.list [.int .i64]],[(1,.sc (.int .i64)),(5,.full 0),(9,.full 1),(10,.sc (.int .i64)),(52,.full 1),(53,.sc (.int .i64)),(54,.sc (.int .i64))],[.arr [.int .i64],.arr [.int .i64]]⟩ (fun ((most4,long,t3,t4,now3,o):Int×Int×Int×Int×List Int×List Int)=>(t3-t4).toNat+1) 4 ⟨[.int .i64,.int .i64,.list [.int .i64],.list [.int .i64]],[(1,.sc (.int .i64)),(5,.full 0),(9,.full 1),(10,.sc (.int .i64))],[.arr [.int .i64],.arr [.int .i64]]⟩ .u))) (.seq .u (.seq .u (.blk (.loop ⟨[.int .i64,.int .i64,.int .i64,.list [.int .i64]],[(1,.sc (.int .i64)),(5,.full 0),(67,.sc (.int .i64)),(68,.sc (.int .i64))],[.arr [.int .i64]]⟩ (fun ((most6,t5,t6,now5):Int×Int×Int×List Int)=>(t5-t6).toNat+1) 6 ⟨[.int .i64,.list [.int .i64]],[(1,.sc (.int .i64)),(5,.full 0)],[.arr [.int .i64]]⟩ .u)))))))))))))))) ZaV.S d=ZaV.S.F d:=fun _=>by kernel_rfl
theorem ZaV.sound:Zah Tryz.prog C0 168 ZaV.S:=sE Za5 ZaV.ev (Zai ⟨Zbt.sound,Zbh.sound,trivial⟩) Tryz.func168
def Zb3.S:ZaK:=⟨0,[.sc (.list [.int .i64])],[],[.list [.int .i64]],⟨[.map [.int .i64,.int .i64] [.int .i64]],.map 0,[.map [.int .i64,.int .i64] [.int .i64]]⟩,
 fun (lens:List Int)=>Zb3 lens⟩
theorem Zb3.ev:∀d,Za4 C0 (hnd (tab [(169,Zct.S)])) Tryz.f154 (.seq .u (.seq .u (.seq (.seq .u (.blk (.loop ⟨[.list [.int .i64],.int .i64,.int .i64,.map [.int .i64,.int .i64] [.int .i64],.list [.int .i64]],[(0,.sc (.list [.int .i64])),(3,.map 0),(8,.full 1),(9,.sc (.int .i64)),(10,.sc (.int .i64))],[.map [.int .i64,.int .i64] [.int .i64],.arr [.int .i64]]⟩ (fun ((lens1,t,t1,o,o1):List Int×Int×Int×(List ((Int×Int)×Int))×List Int)=>(t-t1).toNat+1) 0 ⟨[.map [.int .i64,.int .i64] [.int .i64]],[(3,.map 0)],[.map [.int .i64,.int .i64] [.int .i64]]⟩ .u))) .u))) Zb3.S d=Zb3.S.F d:=fun _=>by kernel_rfl
theorem Zb3.sound:Zah Tryz.prog C0 154 Zb3.S:=sE Za5 Zb3.ev (Zai ⟨Zct.sound,trivial⟩) Tryz.func154
end Ev
end
section
open Go Go.Proofs
set_option maxRecDepth 100000
namespace Ev
set_option maxHeartbeats 1000000
def Zbj.S:ZaK:=⟨2,[.ptr 0 0,.map 1],[.box [.sc .str,.sc (.int .i64),.sc .bool],.map [.int .i64,.int .i64] [.int .i64]],[.str,.int .i64,.bool,.map [.int .i64,.int .i64] [.int .i64]],⟨[.int .i64,.str,.int .i64,.bool,.map [.int .i64,.int .i64] [.int .i64]],.sc (.int .i64),[.box [.sc .str,.sc (.int .i64),.sc .bool],.map [.int .i64,.int .i64] [.int .i64]]⟩,
 fun ((s,at_,bad,book):Str×Int×Bool×List ((Int×Int)×Int))=>Zbj s at_ bad book⟩
theorem Zbj.ev:∀d,Za4 C0 (hnd (tab [(112,Zik.S)])) Tryz.f155 (.seq .u (.seq .u (.seq (.seq .u (.blk (.loopS ⟨[.int .i64,.int .i64,.str,.int .i64,.bool,.map [.int .i64,.int .i64] [.int .i64]],[(0,.ptr 0 0),(1,.map 1),(5,.sc (.int .i64)),(6,.sc (.int .i64))],[.box [.sc .str,.sc (.int .i64),.sc .bool],.map [.int .i64,.int .i64] [.int .i64]]⟩ (fun ((code_,l,o,o1,o2,o3):Int×Int×Str×Int×Bool×List ((Int×Int)×Int))=>(15-l).toNat+2) 0 ⟨[.str,.int .i64,.bool,.map [.int .i64,.int .i64] [.int .i64]],[(0,.ptr 0 0)],[.box [.sc .str,.sc (.int .i64),.sc .bool],.map [.int .i64,.int .i64] [.int .i64]]⟩ (.seq .u (.seq (.blk (.seq .u (.seq .u (.seq (.reg [.bool] [(33,.sc .bool)]) .u)))) .u))))) .u))) Zbj.S d=Zbj.S.F d:=fun _=>by kernel_rfl
theorem Zbj.sound:Zah Tryz.prog C0 155 Zbj.S:=sE Za5 Zbj.ev (Zai ⟨Zik.sound,trivial⟩) Tryz.func155
def add.S:ZaK:=⟨0,[.full 0,.agg [.sc (.int .i64),.sc (.int .i64),.sc (.int .i64)]],[.arr [.int .u8]],[.int .i64,.int .i64,.int .i64,.list [.int .u8]],⟨[.bool,.list [.int .u8]],.tup [.full 0,.sc .bool],[.arr [.int .u8]]⟩,
 fun ((byte,long,back,out):Int×Int×Int×List Int)=>add byte long back out⟩
theorem add.ev:∀d,Za4 C0 (hnd (tab [(104,Zbt.S)])) Tryz.f158 (.seq .u (.seq (.seq .u (.cond (.seq (.seq (.reg [.bool] [(17,.sc .bool)]) .u) .u) .u)) (.seq (.seq (.reg [.bool] [(41,.sc .bool)]) .u) (.seq (.seq .u (.blk (.loop ⟨[.int .i64,.int .i64,.list [.int .u8],.int .i64,.int .i64,.int .i64],[(0,.full 0),(3,.ptr 1 0),(43,.sc (.int .i64)),(44,.sc (.int .i64))],[.arr [.int .u8],.box [.sc (.int .i64),.sc (.int .i64),.sc (.int .i64)]]⟩ (fun ((t,t1,out1,o,o1,o2):Int×Int×List Int×Int×Int×Int)=>(t-t1).toNat+1) 0 ⟨[.list [.int .u8]],[(0,.full 0)],[.arr [.int .u8]]⟩ .u))) .u)))) add.S d=add.S.F d:=fun _=>by kernel_rfl
theorem add.sound:Zah Tryz.prog C0 158 add.S:=sE Za5 add.ev (Zai ⟨Zbt.sound,trivial⟩) Tryz.func158
def Zap.S:ZaK:=⟨0,[.sc .str],[],[.str],⟨[.list [.int .i64,.int .i64,.int .i64]],.full 0,[.arr [.int .i64,.int .i64,.int .i64]]⟩,
 fun (text:Str)=>Zap text⟩
theorem Zap.ev:∀d,Za4 C0 (hnd (tab [])) Tryz.f165 (.seq .u (.seq .u (.seq .u (.seq (.seq .u (.blk (.loop ⟨[.str,.int .i64,.list [.int .i64,.int .i64,.int .i64]],[(0,.sc .str),(3,.full 0),(4,.sc (.int .i64))],[.arr [.int .i64,.int .i64,.int .i64]]⟩ (fun ((text1,at_,out):Str×Int×List (Int×Int×Int))=>((text1.length:Int)-at_).toNat+1) 0 ⟨[.list [.int .i64,.int .i64,.int .i64]],[(3,.full 0)],[.arr [.int .i64,.int .i64,.int .i64]]⟩ (.seq .u (.blk (.seq .u (.seq (.seq .u (.blk (.loop ⟨[.str,.int .i64,.int .i64,.list [.int .i64,.int .i64,.int .i64],.int .i64,.int .i64,.int .i64],[(0,.sc .str),(3,.full 0),(4,.sc (.int .i64)),(5,.ptr 1 0),(6,.sc (.int .i64))],[.arr [.int .i64,.int .i64,.int .i64],.box [.sc (.int .i64),.sc (.int .i64),.sc (.int .i64)]]⟩ (fun ((text2,at_1,back,out1,o,o1,o2):Str×Int×Int×(List (Int×Int×Int))×Int×Int×Int)=>((ZkC 250 at_1)-back).toNat+2) 2 ⟨[.str,.int .i64,.list [.int .i64,.int .i64,.int .i64],.int .i64,.int .i64,.int .i64],[(0,.sc .str),(3,.full 0),(4,.sc (.int .i64)),(5,.ptr 1 0)],[.arr [.int .i64,.int .i64,.int .i64],.box [.sc (.int .i64),.sc (.int .i64),.sc (.int .i64)]]⟩ (.seq .u (.seq (.blk (.seq .u (.seq (.blk (.loop ⟨[.str,.int .i64,.int .i64,.int .i64,.list [.int .i64,.int .i64,.int .i64],.int .i64,.int .i64,.int .i64],[(0,.sc .str),(3,.full 0),(4,.sc (.int .i64)),(5,.ptr 1 0),(6,.sc (.int .i64)),(7,.sc (.int .i64))],[.arr [.int .i64,.int .i64,.int .i64],.box [.sc (.int .i64),.sc (.int .i64),.sc (.int .i64)]]⟩ (fun ((text3,at_2,back1,n,out2,o3,o4,o5):Str×Int×Int×Int×(List (Int×Int×Int))×Int×Int×Int)=>(60-n).toNat+1) 4 ⟨[.str,.int .i64,.int .i64,.int .i64,.list [.int .i64,.int .i64,.int .i64],.int .i64,.int .i64,.int .i64],[(0,.sc .str),(3,.full 0),(4,.sc (.int .i64)),(5,.ptr 1 0),(6,.sc (.int .i64)),(7,.sc (.int .i64))],[.arr [.int .i64,.int .i64,.int .i64],.box [.sc (.int .i64),.sc (.int .i64),.sc (.int .i64)]]⟩ (.seq (.seq (.reg [.bool] [(52,.sc .bool)]) .u) .u))) (.seq (.reg [.bool] [(62,.sc .bool)]) .u)))) .u))))) .u))))))) .u)))) Zap.S d=Zap.S.F d:=fun _=>by kernel_rfl
theorem Zap.sound:Zah Tryz.prog C0 165 Zap.S:=sE Za5 Zap.ev (Zai trivial) Tryz.func165
def Zcg.S:ZaK:=⟨0,[.sc (.int .i64),.sc (.int .i64),.sc (.int .i64),.sc (.int .i64)],[],[.int .i64,.int .i64,.int .i64,.int .i64],⟨[.list [.int .i64],.list [.int .i64]],.agg [.sc (.list [.int .i64]),.sc (.list [.int .i64])],[]⟩,
 fun ((from_,many,plain,each):Int×Int×Int×Int)=>Zcg from_ many plain each⟩
theorem Zcg.ev:∀d,Za4 C0 (hnd (tab [])) Tryz.f187 (.seq .u (.seq .u (.seq (.seq .u (.blk (.loop ⟨[.int .i64,.int .i64,.int .i64,.int .i64,.int .i64,.list [.int .i64],.list [.int .i64],.list [.int .i64],.list [.int .i64]],[(0,.sc (.int .i64)),(2,.sc (.int .i64)),(3,.sc (.int .i64)),(8,.ptr 0 0),(9,.ptr 1 0),(13,.sc (.int .i64)),(14,.sc (.int .i64))],[.box [.full 2,.full 3],.box [.full 4,.full 5],.arr [.int .i64],.arr [.int .i64],.arr [.int .i64],.arr [.int .i64]]⟩ (fun ((from_1,plain1,each1,t,t1,o,o1,o2,o3):Int×Int×Int×Int×Int×List Int×List Int×List Int×List Int)=>(t-t1).toNat+1) 0 ⟨[.list [.int .i64],.list [.int .i64],.list [.int .i64],.list [.int .i64]],[(8,.ptr 0 0),(9,.ptr 1 0)],[.box [.full 2,.full 3],.box [.full 4,.full 5],.arr [.int .i64],.arr [.int .i64],.arr [.int .i64],.arr [.int .i64]]⟩ (.seq .u (.seq .u (.seq (.blk (.seq .u (.seq .u (.join ⟨[.int .i64,.int .i64,.int .i64,.int .i64,.int .i64,.int .i64,.list [.int .i64],.list [.int .i64],.list [.int .i64],.list [.int .i64]],[(0,.sc (.int .i64)),(2,.sc (.int .i64)),(3,.sc (.int .i64)),(8,.ptr 0 0),(9,.ptr 1 0),(11,.sc (.int .i64)),(13,.sc (.int .i64)),(14,.sc (.int .i64))],[.box [.full 2,.full 3],.box [.full 4,.full 5],.arr [.int .i64],.arr [.int .i64],.arr [.int .i64],.arr [.int .i64]]⟩ .u .u)))) .u)))))) .u))) Zcg.S d=Zcg.S.F d:=fun _=>by kernel_rfl
theorem Zcg.sound:Zah Tryz.prog C0 187 Zcg.S:=sE Za5 Zcg.ev (Zai trivial) Tryz.func187
def ZbQ.S:ZaK:=⟨0,[],[],[],⟨[.list [.int .i64],.list [.int .i64]],.agg [.sc (.list [.int .i64]),.sc (.list [.int .i64])],[]⟩,
 fun (_:Unit)=>ZbQ⟩
theorem ZbQ.ev:∀d,Za4 C0 (hnd (tab [(187,Zcg.S)])) Tryz.f156 .u ZbQ.S d=ZbQ.S.F d:=fun _=>by kernel_rfl
theorem ZbQ.sound:Zah Tryz.prog C0 156 ZbQ.S:=sE Za5 ZbQ.ev (Zai ⟨Zcg.sound,trivial⟩) Tryz.func156
def ZbV.S:ZaK:=⟨0,[],[],[],⟨[.list [.int .i64],.list [.int .i64]],.agg [.sc (.list [.int .i64]),.sc (.list [.int .i64])],[]⟩,
 fun (_:Unit)=>ZbV⟩
theorem ZbV.ev:∀d,Za4 C0 (hnd (tab [(187,Zcg.S)])) Tryz.f157 .u ZbV.S d=ZbV.S.F d:=fun _=>by kernel_rfl
theorem ZbV.sound:Zah Tryz.prog C0 157 ZbV.S:=sE Za5 ZbV.ev (Zai ⟨Zcg.sound,trivial⟩) Tryz.func157
def Zce.S:ZaK:=⟨0,[.agg [.sc (.list [.int .i64]),.sc (.list [.int .i64])],.sc (.int .i64)],[],[.list [.int .i64],.list [.int .i64],.int .i64],⟨[.int .i64],.sc (.int .i64),[]⟩,
 fun ((first,bits,n):List Int×List Int×Int)=>Zce first bits n⟩
theorem Zce.ev:∀d,Za4 C0 (hnd (tab [])) Tryz.f166 (.seq .u (.seq .u (.seq (.blk (.loop ⟨[.int .i64,.int .i64,.list [.int .i64],.list [.int .i64]],[(1,.sc (.int .i64)),(2,.ptr 0 0),(5,.sc (.int .i64))],[.box [.sc (.list [.int .i64]),.sc (.list [.int .i64])]]⟩ (fun ((n1,k,o,o1):Int×Int×List Int×List Int)=>k.toNat+1) 0 ⟨[.int .i64],[(5,.sc (.int .i64))],[]⟩ .u)) .u))) Zce.S d=Zce.S.F d:=fun _=>by kernel_rfl
theorem Zce.sound:Zah Tryz.prog C0 166 Zce.S:=sE Za5 Zce.ev (Zai trivial) Tryz.func166
def Zbl.S:ZaK:=⟨0,[],[],[],⟨[.list [.int .i64],.list [.int .i64]],.tup [.full 0,.full 1],[.arr [.int .i64],.arr [.int .i64]]⟩,
 fun (_:Unit)=>Zbl⟩
theorem Zbl.ev:∀d,Za4 C0 (hnd (tab [])) Tryz.f115 (.seq .u (.seq .u (.seq (.seq .u (.blk (.loop ⟨[.int .i64,.int .i64,.list [.int .i64]],[(2,.full 0),(8,.sc (.int .i64)),(9,.sc (.int .i64))],[.arr [.int .i64]]⟩ (fun ((t,t1,lit):Int×Int×List Int)=>(t-t1).toNat+1) 0 ⟨[.list [.int .i64]],[(2,.full 0)],[.arr [.int .i64]]⟩ (.seq .u (.seq .u (.seq (.blk (.seq .u (.blk (.seq (.reg [.bool] [(15,.sc .bool)]) .u)))) .u)))))) (.seq .u (.seq (.seq .u (.blk (.loop ⟨[.int .i64,.int .i64,.list [.int .i64],.list [.int .i64]],[(2,.full 0),(4,.full 1),(34,.sc (.int .i64)),(35,.sc (.int .i64))],[.arr [.int .i64],.arr [.int .i64]]⟩ (fun ((t2,t3,lit2,dist):Int×Int×List Int×List Int)=>(t2-t3).toNat+1) 3 ⟨[.list [.int .i64],.list [.int .i64]],[(2,.full 0),(4,.full 1)],[.arr [.int .i64],.arr [.int .i64]]⟩ .u))) .u))))) Zbl.S d=Zbl.S.F d:=fun _=>by kernel_rfl
theorem Zbl.sound:Zah Tryz.prog C0 115 Zbl.S:=sE Za5 Zbl.ev (Zai trivial) Tryz.func115
def Zdq.S:ZaK:=⟨0,[.sc .str],[],[.str],⟨[.str],.sc .str,[]⟩,
 fun (text:Str)=>Zdq text⟩
theorem Zdq.ev:∀d,Za4 C0 (hnd (tab [(162,ZeL.S),(163,Zju.S)])) Tryz.f126 .u Zdq.S d=Zdq.S.F d:=fun _=>by kernel_rfl
theorem Zdq.sound:Zah Tryz.prog C0 126 Zdq.S:=sE Za5 Zdq.ev (Zai ⟨ZeL.sound,Zju.sound,trivial⟩) Tryz.func126
def Zf5.S:ZaK:=⟨1,[.ptr 0 0,.sc (.list [.int .i64]),.sc (.list [.int .i64]),.sc (.int .i64)],[.box [.full 1,.sc (.int .i64)],.arr [.int .u8]],[.list [.int .i64],.list [.int .i64],.int .i64,.int .i64,.list [.int .u8]],⟨[.int .i64,.list [.int .u8]],.tup [],[.box [.full 1,.sc (.int .i64)],.arr [.int .u8]]⟩,
 fun ((lens,all,s,many,b):List Int×List Int×Int×Int×List Int)=>Zf5 lens all s many b⟩
theorem Zf5.ev:∀d,Za4 C0 (hnd (tab [(162,ZeL.S),(191,Zby.S)])) Tryz.f170 .u Zf5.S d=Zf5.S.F d:=fun _=>by kernel_rfl
theorem Zf5.sound:Zah Tryz.prog C0 170 Zf5.S:=sE Za5 Zf5.ev (Zai ⟨ZeL.sound,Zby.sound,trivial⟩) Tryz.func170
def ZbF.S:ZaK:=⟨1,[.ptr 0 0,.sc (.list [.int .i64,.int .i64,.int .i64]),.sc (.list [.int .i64]),.sc (.list [.int .i64])],[.box [.full 1,.sc (.int .i64)],.arr [.int .u8]],[.list [.int .i64,.int .i64,.int .i64],.list [.int .i64],.list [.int .i64],.int .i64,.list [.int .u8]],⟨[.int .i64,.list [.int .u8]],.tup [],[.box [.full 1,.sc (.int .i64)],.arr [.int .u8]]⟩,
 fun ((list,lit,dist,many,b):(List (Int×Int×Int))×List Int×List Int×Int×List Int)=>ZbF list lit dist many b⟩
theorem ZbF.ev:∀d,Za4 C0 (hnd (tab [(156,ZbQ.S),(157,ZbV.S),(162,ZeL.S),(166,Zce.S),(169,Zct.S),(170,Zf5.S)])) Tryz.f164 (.seq .u (.seq (.seq .u (.blk (.loop ⟨[.list [.int .i64],.list [.int .i64],.list [.int .i64,.int .i64,.int .i64],.int .i64,.int .i64,.int .i64,.list [.int .i64],.list [.int .i64],.list [.int .u8]],[(0,.ptr 0 0),(2,.sc (.list [.int .i64])),(3,.sc (.list [.int .i64])),(8,.full 1),(9,.full 2),(17,.sc (.list [.int .i64,.int .i64,.int .i64])),(18,.sc (.int .i64)),(19,.sc (.int .i64))],[.box [.full 3,.sc (.int .i64)],.arr [.int .i64],.arr [.int .i64],.arr [.int .u8]]⟩ (fun ((lit1,dist1,t,t1,t2,o,a,b1,o1):List Int×List Int×(List (Int×Int×Int))×Int×Int×Int×List Int×List Int×List Int)=>(t1-t2).toNat+1) 0 ⟨[.list [.int .i64],.int .i64,.list [.int .i64],.list [.int .u8]],[(0,.ptr 0 0),(2,.sc (.list [.int .i64])),(8,.full 1)],[.box [.full 2,.sc (.int .i64)],.arr [.int .i64],.arr [.int .u8]]⟩ .u))) .u)) ZbF.S d=ZbF.S.F d:=fun _=>by kernel_rfl
theorem ZbF.sound:Zah Tryz.prog C0 164 ZbF.S:=sE Za5 ZbF.ev (Zai ⟨ZbQ.sound,ZbV.sound,ZeL.sound,Zce.sound,Zct.sound,Zf5.sound,trivial⟩) Tryz.func164
def Zdy.S:ZaK:=⟨0,[.sc .str],[],[.str],⟨[.str],.sc .str,[]⟩,
 fun (text:Str)=>Zdy text⟩
theorem Zdy.ev:∀d,Za4 C0 (hnd (tab [(115,Zbl.S),(162,ZeL.S),(164,ZbF.S),(165,Zap.S)])) Tryz.f127 .u Zdy.S d=Zdy.S.F d:=fun _=>by kernel_rfl
theorem Zdy.sound:Zah Tryz.prog C0 127 Zdy.S:=sE Za5 Zdy.ev (Zai ⟨Zbl.sound,ZeL.sound,ZbF.sound,Zap.sound,trivial⟩) Tryz.func127
def ZbC.S:ZaK:=⟨0,[.sc (.list [.int .i64]),.sc (.int .i64)],[],[.list [.int .i64],.int .i64],⟨[.list [.int .i64]],.sc (.list [.int .i64]),[]⟩,
 fun ((lens,least_):List Int×Int)=>ZbC lens least_⟩
theorem ZbC.ev:∀d,Za4 C0 (hnd (tab [])) Tryz.f167 (.seq .u (.seq .u (.seq (.blk (.loop ⟨[.list [.int .i64],.int .i64,.int .i64],[(0,.sc (.list [.int .i64])),(1,.sc (.int .i64)),(5,.sc (.int .i64))],[]⟩ (fun ((lens1,least_1,n):List Int×Int×Int)=>(n-least_1).toNat+1) 0 ⟨[.list [.int .i64],.int .i64],[(0,.sc (.list [.int .i64])),(5,.sc (.int .i64))],[]⟩ (.seq (.seq (.reg [.bool] [(18,.sc .bool)]) .u) .u))) .u))) ZbC.S d=ZbC.S.F d:=fun _=>by kernel_rfl
theorem ZbC.sound:Zah Tryz.prog C0 167 ZbC.S:=sE Za5 ZbC.ev (Zai trivial) Tryz.func167
def ZaX.S:ZaK:=⟨0,[.sc .str],[],[.str],⟨[.str],.sc .str,[]⟩,
 fun (text:Str)=>ZaX text⟩
theorem ZaX.ev:∀d,Za4 C0 (hnd (tab [(156,ZbQ.S),(157,ZbV.S),(162,ZeL.S),(164,ZbF.S),(165,Zap.S),(166,Zce.S),(167,ZbC.S),(168,ZaV.S),(169,Zct.S),(170,Zf5.S)])) Tryz.f128 (.seq .u (.seq .u (.seq .u (.seq .u (.seq .u (.seq .u (.seq (.seq .u (.blk (.loop ⟨[.bool,.int .i64,.int .i64,.list [.int .i64,.int .i64,.int .i64],.list [.int .i64],.list [.int .i64]],[(3,.full 0),(4,.full 1),(5,.full 2),(6,.sc .bool),(31,.full 0),(32,.sc (.int .i64)),(33,.sc (.int .i64))],[.arr [.int .i64,.int .i64,.int .i64],.arr [.int .i64],.arr [.int .i64]]⟩ (fun ((none_,t,t1,o,a,b):Bool×Int×Int×(List (Int×Int×Int))×List Int×List Int)=>(t-t1).toNat+1) 0 ⟨[.bool,.list [.int .i64,.int .i64,.int .i64],.list [.int .i64],.list [.int .i64]],[(3,.full 0),(4,.full 1),(5,.full 2),(6,.sc .bool)],[.arr [.int .i64,.int .i64,.int .i64],.arr [.int .i64],.arr [.int .i64]]⟩ .u))) (.join ⟨[.list [.int .i64,.int .i64,.int .i64],.list [.int .i64],.list [.int .i64]],[(3,.full 0),(4,.full 1),(5,.full 2)],[.arr [.int .i64,.int .i64,.int .i64],.arr [.int .i64],.arr [.int .i64]]⟩ .u (.seq .u (.seq .u (.seq .u (.seq (.seq .u (.blk (.loop ⟨[.list [.int .i64],.list [.int .i64],.int .i64,.int .i64,.list [.int .i64,.int .i64,.int .i64],.list [.int .i64],.list [.int .i64]],[(3,.full 0),(9,.sc (.list [.int .i64])),(10,.sc (.list [.int .i64])),(11,.full 1),(12,.full 2),(84,.full 1),(85,.sc (.int .i64)),(86,.sc (.int .i64))],[.arr [.int .i64,.int .i64,.int .i64],.arr [.int .i64],.arr [.int .i64]]⟩ (fun ((lit,dist,t2,t3,list2,o1,c):List Int×List Int×Int×Int×(List (Int×Int×Int))×List Int×List Int)=>(t2-t3).toNat+1) 2 ⟨[.list [.int .i64],.list [.int .i64],.list [.int .i64,.int .i64,.int .i64],.list [.int .i64],.list [.int .i64]],[(3,.full 0),(9,.sc (.list [.int .i64])),(10,.sc (.list [.int .i64])),(11,.full 1),(12,.full 2)],[.arr [.int .i64,.int .i64,.int .i64],.arr [.int .i64],.arr [.int .i64]]⟩ .u))) (.seq .u (.seq .u (.seq .u (.seq .u (.seq .u (.seq .u (.seq .u (.seq (.seq .u (.blk (.loop ⟨[.list [.int .i64],.list [.int .i64],.list [.int .i64],.int .i64,.int .i64,.list [.int .i64,.int .i64,.int .i64],.list [.int .i64],.list [.int .i64],.int .i64,.list [.int .u8]],[(3,.full 0),(9,.sc (.list [.int .i64])),(10,.sc (.list [.int .i64])),(11,.full 1),(15,.full 2),(16,.ptr 3 0),(120,.sc (.list [.int .i64])),(121,.sc (.int .i64)),(122,.sc (.int .i64))],[.arr [.int .i64,.int .i64,.int .i64],.arr [.int .i64],.arr [.int .i64],.box [.full 4,.sc (.int .i64)],.arr [.int .u8]]⟩ (fun ((lit2,dist2,t4,t5,t6,list4,all1,meta_,o2,o3):List Int×List Int×List Int×Int×Int×(List (Int×Int×Int))×List Int×List Int×Int×List Int)=>(t5-t6).toNat+1) 4 ⟨[.list [.int .i64],.list [.int .i64],.list [.int .i64,.int .i64,.int .i64],.list [.int .i64],.list [.int .i64],.int .i64,.list [.int .u8]],[(3,.full 0),(9,.sc (.list [.int .i64])),(10,.sc (.list [.int .i64])),(11,.full 1),(15,.full 2),(16,.ptr 3 0)],[.arr [.int .i64,.int .i64,.int .i64],.arr [.int .i64],.arr [.int .i64],.box [.full 4,.sc (.int .i64)],.arr [.int .u8]]⟩ .u))) (.seq .u (.seq (.seq .u (.blk (.loop ⟨[.list [.int .i64],.list [.int .i64],.int .i64,.int .i64,.list [.int .i64,.int .i64,.int .i64],.list [.int .i64],.int .i64,.list [.int .i64],.list [.int .i64],.list [.int .u8]],[(3,.full 0),(9,.sc (.list [.int .i64])),(10,.sc (.list [.int .i64])),(15,.full 1),(16,.ptr 2 0),(19,.full 3),(135,.full 4),(136,.sc (.int .i64)),(137,.sc (.int .i64))],[.arr [.int .i64,.int .i64,.int .i64],.arr [.int .i64],.box [.full 5,.sc (.int .i64)],.arr [.int .i64],.arr [.int .i64],.arr [.int .u8]]⟩ (fun ((lit4,dist4,t7,t8,list6,meta_2,o6,m,o7,o8):List Int×List Int×Int×Int×(List (Int×Int×Int))×List Int×Int×List Int×List Int×List Int)=>(t7-t8).toNat+1) 6 ⟨[.list [.int .i64],.list [.int .i64],.list [.int .i64,.int .i64,.int .i64],.int .i64,.list [.int .u8]],[(3,.full 0),(9,.sc (.list [.int .i64])),(10,.sc (.list [.int .i64])),(16,.ptr 1 0)],[.arr [.int .i64,.int .i64,.int .i64],.box [.full 2,.sc (.int .i64)],.arr [.int .u8]]⟩ .u))) .u)))))))))))))))))))))) ZaX.S d=ZaX.S.F d:=fun _=>by kernel_rfl
theorem ZaX.sound:Zah Tryz.prog C0 128 ZaX.S:=sE Za5 ZaX.ev (Zai ⟨ZbQ.sound,ZbV.sound,ZeL.sound,ZbF.sound,Zap.sound,Zce.sound,ZbC.sound,ZaV.sound,Zct.sound,Zf5.sound,trivial⟩) Tryz.func128
def Za6.S:ZaK:=⟨0,[.sc .str],[],[.str],⟨[.str],.sc .str,[]⟩,
 fun (text:Str)=>Za6 text⟩
theorem Za6.ev:∀d,Za4 C0 (hnd (tab [(126,Zdq.S),(127,Zdy.S),(128,ZaX.S)])) Tryz.f72 (.seq .u (.seq .u (.seq (.seq .u (.blk (.loop ⟨[.str,.int .i64,.int .i64,.list [.str]],[(3,.sc .str),(12,.full 0),(13,.sc (.int .i64)),(14,.sc (.int .i64))],[.arr [.str]]⟩ (fun ((best,t,t1,o):Str×Int×Int×List Str)=>(t-t1).toNat+1) 0 ⟨[.str],[(3,.sc .str)],[]⟩ .u))) .u))) Za6.S d=Za6.S.F d:=fun _=>by kernel_rfl
theorem Za6.sound:Zah Tryz.prog C0 72 Za6.S:=sE Za5 Za6.ev (Zai ⟨Zdq.sound,Zdy.sound,ZaX.sound,trivial⟩) Tryz.func72
def ZbK.S:ZaK:=⟨1,[.ptr 0 0,.full 1],[.box [.sc .str,.sc (.int .i64),.sc .bool],.arr [.int .u8]],[.str,.int .i64,.bool,.list [.int .u8]],⟨[.str,.int .i64,.bool,.list [.int .u8]],.full 1,[.box [.sc .str,.sc (.int .i64),.sc .bool],.arr [.int .u8]]⟩,
 fun ((s,at_,bad,out):Str×Int×Bool×List Int)=>ZbK s at_ bad out⟩
theorem ZbK.ev:∀d,Za4 C0 (hnd (tab [(113,ZeO.S),(118,Zd7.S)])) Tryz.f114 (.seq .u (.seq .u (.seq .u (.join ⟨[.int .i64,.str,.int .i64,.bool,.list [.int .u8]],[(0,.ptr 0 0),(1,.full 1),(5,.sc (.int .i64))],[.box [.sc .str,.sc (.int .i64),.sc .bool],.arr [.int .u8]]⟩ .u (.seq (.seq .u (.blk (.loop ⟨[.int .i64,.int .i64,.str,.int .i64,.bool,.list [.int .u8]],[(0,.ptr 0 0),(1,.full 1),(5,.sc (.int .i64)),(7,.sc (.int .i64))],[.box [.sc .str,.sc (.int .i64),.sc .bool],.arr [.int .u8]]⟩ (fun ((n1,k,o3,o4,o5,out2):Int×Int×Str×Int×Bool×List Int)=>(n1-k).toNat+1) 0 ⟨[.str,.int .i64,.bool,.list [.int .u8]],[(1,.full 1)],[.box [.sc .str,.sc (.int .i64),.sc .bool],.arr [.int .u8]]⟩ (.seq (.seq (.reg [.bool] [(35,.sc .bool)]) .u) .u)))) .u))))) ZbK.S d=ZbK.S.F d:=fun _=>by kernel_rfl
theorem ZbK.sound:Zah Tryz.prog C0 114 ZbK.S:=sE Za5 ZbK.ev (Zai ⟨ZeO.sound,Zd7.sound,trivial⟩) Tryz.func114
def Zaq.S:ZaK:=⟨1,[.ptr 0 0],[.box [.sc .str,.sc (.int .i64),.sc .bool]],[.str,.int .i64,.bool],⟨[.list [.int .i64],.list [.int .i64],.str,.int .i64,.bool],.tup [.sc (.list [.int .i64]),.sc (.list [.int .i64])],[.box [.sc .str,.sc (.int .i64),.sc .bool]]⟩,
 fun ((s,at_,bad):Str×Int×Bool)=>Zaq s at_ bad⟩
theorem Zaq.ev:∀d,Za4 C0 (hnd (tab [(113,ZeO.S),(153,Zb1.S),(154,Zb3.S),(155,Zbj.S)])) Tryz.f117 (.seq .u (.seq .u (.join ⟨[.int .i64,.int .i64,.int .i64,.str,.int .i64,.bool],[(0,.ptr 0 0),(4,.sc (.int .i64)),(5,.sc (.int .i64)),(6,.sc (.int .i64))],[.box [.sc .str,.sc (.int .i64),.sc .bool]]⟩ (.seq (.reg [.bool] [(29,.sc .bool)]) .u) (.seq .u (.seq (.seq .u (.blk (.loop ⟨[.int .i64,.int .i64,.list [.int .i64],.int .i64,.int .i64,.str,.int .i64,.bool,.list [.int .i64]],[(0,.ptr 0 0),(4,.sc (.int .i64)),(5,.sc (.int .i64)),(7,.full 1),(38,.sc (.list [.int .i64])),(39,.sc (.int .i64)),(40,.sc (.int .i64))],[.box [.sc .str,.sc (.int .i64),.sc .bool],.arr [.int .i64]]⟩ (fun ((lit1,dist1,t,t1,t2,o3,o4,o5,meta_):Int×Int×List Int×Int×Int×Str×Int×Bool×List Int)=>(t1-t2).toNat+1) 0 ⟨[.int .i64,.int .i64,.str,.int .i64,.bool,.list [.int .i64]],[(0,.ptr 0 0),(4,.sc (.int .i64)),(5,.sc (.int .i64)),(7,.full 1)],[.box [.sc .str,.sc (.int .i64),.sc .bool],.arr [.int .i64]]⟩ .u))) (.seq (.seq (.reg [.bool] [(58,.sc .bool)]) .u) (.seq .u (.seq .u (.seq (.blk (.loop ⟨[.int .i64,.int .i64,.str,.int .i64,.bool,.map [.int .i64,.int .i64] [.int .i64],.list [.int .i64]],[(0,.ptr 0 0),(4,.sc (.int .i64)),(5,.sc (.int .i64)),(10,.map 1),(11,.full 2)],[.box [.sc .str,.sc (.int .i64),.sc .bool],.map [.int .i64,.int .i64] [.int .i64],.arr [.int .i64]]⟩ (fun ((lit3,dist3,o9,o10,o11,o12,all):Int×Int×Str×Int×Bool×(List ((Int×Int)×Int))×List Int)=>((w64 (lit3+dist3))-(all.length:Int)).toNat+1) 2 ⟨[.int .i64,.int .i64,.str,.int .i64,.bool,.list [.int .i64]],[(0,.ptr 0 0),(4,.sc (.int .i64)),(5,.sc (.int .i64)),(11,.full 1)],[.box [.sc .str,.sc (.int .i64),.sc .bool],.arr [.int .i64]]⟩ (.seq (.seq (.reg [.bool] [(77,.sc .bool)]) .u) (.blk (.seq .u (.seq .u (.join ⟨[.int .i64,.int .i64,.int .i64,.int .i64,.str,.int .i64,.bool,.map [.int .i64,.int .i64] [.int .i64],.list [.int .i64]],[(0,.ptr 0 0),(4,.sc (.int .i64)),(5,.sc (.int .i64)),(10,.map 1),(11,.full 2),(13,.sc (.int .i64)),(14,.sc (.int .i64))],[.box [.sc .str,.sc (.int .i64),.sc .bool],.map [.int .i64,.int .i64] [.int .i64],.arr [.int .i64]]⟩ .u (.seq .u (.blk (.loop ⟨[.int .i64,.int .i64,.int .i64,.int .i64,.int .i64,.str,.int .i64,.bool,.map [.int .i64,.int .i64] [.int .i64],.list [.int .i64]],[(0,.ptr 0 0),(4,.sc (.int .i64)),(5,.sc (.int .i64)),(10,.map 1),(11,.full 2),(13,.sc (.int .i64)),(112,.sc (.int .i64)),(113,.sc (.int .i64))],[.box [.sc .str,.sc (.int .i64),.sc .bool],.map [.int .i64,.int .i64] [.int .i64],.arr [.int .i64]]⟩ (fun ((lit5,dist5,again_1,t3,t4,o17,o18,o19,o20,all2):Int×Int×Int×Int×Int×Str×Int×Bool×(List ((Int×Int)×Int))×List Int)=>(t3-t4).toNat+1) 5 ⟨[.int .i64,.int .i64,.str,.int .i64,.bool,.map [.int .i64,.int .i64] [.int .i64],.list [.int .i64]],[(0,.ptr 0 0),(4,.sc (.int .i64)),(5,.sc (.int .i64)),(10,.map 1),(11,.full 2)],[.box [.sc .str,.sc (.int .i64),.sc .bool],.map [.int .i64,.int .i64] [.int .i64],.arr [.int .i64]]⟩ .u)))))))))) (.seq (.seq (.reg [.bool] [(131,.sc .bool)]) .u) .u)))))))))) Zaq.S d=Zaq.S.F d:=fun _=>by kernel_rfl
theorem Zaq.sound:Zah Tryz.prog C0 117 Zaq.S:=sE Za5 Zaq.ev (Zai ⟨ZeO.sound,Zb1.sound,Zb3.sound,Zbj.sound,trivial⟩) Tryz.func117
def Zcc.S:ZaK:=⟨1,[.ptr 0 0,.full 1,.sc (.list [.int .i64]),.sc (.list [.int .i64])],[.box [.sc .str,.sc (.int .i64),.sc .bool],.arr [.int .u8]],[.list [.int .i64],.list [.int .i64],.str,.int .i64,.bool,.list [.int .u8]],⟨[.str,.int .i64,.bool,.list [.int .u8]],.full 1,[.box [.sc .str,.sc (.int .i64),.sc .bool],.arr [.int .u8]]⟩,
 fun ((lit,dist,s,at_,bad,out):List Int×List Int×Str×Int×Bool×List Int)=>Zcc lit dist s at_ bad out⟩
theorem Zcc.ev:∀d,Za4 C0 (hnd (tab [(113,ZeO.S),(153,Zb1.S),(154,Zb3.S),(155,Zbj.S),(156,ZbQ.S),(157,ZbV.S),(158,add.S)])) Tryz.f116 (.seq .u (.seq (.seq (.reg [.bool] [(29,.sc .bool)]) .u) (.seq .u (.seq (.blk (.loopS ⟨[.str,.int .i64,.bool,.list [.int .u8],.map [.int .i64,.int .i64] [.int .i64],.map [.int .i64,.int .i64] [.int .i64]],[(0,.ptr 0 0),(1,.full 1),(9,.map 2),(10,.map 3)],[.box [.sc .str,.sc (.int .i64),.sc .bool],.arr [.int .u8],.map [.int .i64,.int .i64] [.int .i64],.map [.int .i64,.int .i64] [.int .i64]]⟩ (fun ((o,o1,o2,out1,o3,o4):Str×Int×Bool×List Int×(List ((Int×Int)×Int))×List ((Int×Int)×Int))=>100000) 0 ⟨[.str,.int .i64,.bool,.list [.int .u8]],[(1,.full 1)],[.box [.sc .str,.sc (.int .i64),.sc .bool],.arr [.int .u8]]⟩ (.seq (.seq (.reg [.bool] [(47,.sc .bool)]) .u) (.blk (.seq .u (.seq (.blk (.seq (.reg [.bool] [(51,.sc .bool)]) .u)) (.seq (.cm [(1,[0]),(2,[0]),(3,[0]),(4,[0]),(5,[0])]) (.seq .u (.seq .u (.seq (.cm [(1,[0]),(2,[0]),(3,[0]),(4,[0])]) (.seq .u (.seq (.seq (.reg [.bool] [(129,.sc .bool)]) .u) .u)))))))))))) .u)))) Zcc.S d=Zcc.S.F d:=fun _=>by kernel_rfl
theorem Zcc.sound:Zah Tryz.prog C0 116 Zcc.S:=sE Za5 Zcc.ev (Zai ⟨ZeO.sound,Zb1.sound,Zb3.sound,Zbj.sound,ZbQ.sound,ZbV.sound,add.sound,trivial⟩) Tryz.func116
end Ev
end
section
open Go Go.Proofs
set_option maxRecDepth 100000
namespace Ev
set_option maxHeartbeats 1000000
def Za3.S:ZaK:=⟨1,[.ptr 0 0,.full 1,.sc (.list [.int .i64]),.sc (.list [.int .i64])],[.box [.sc .str,.sc (.int .i64),.sc .bool],.arr [.int .u8]],[.list [.int .i64],.list [.int .i64],.str,.int .i64,.bool,.list [.int .u8]],⟨[.str,.int .i64,.bool],.undef,[.box [.sc .str,.sc (.int .i64),.sc .bool]]⟩,
 fun ((lit,dist,s,at_,bad,out):List Int×List Int×Str×Int×Bool×List Int)=>Za3 lit dist s at_ bad out⟩
theorem Za3.ev:∀d,Za4 C0 (hnd (tab [(113,ZeO.S),(153,Zb1.S),(154,Zb3.S),(155,Zbj.S),(156,ZbQ.S),(157,ZbV.S),(158,add.S)])) Tryz.f116 (.seq .u (.seq (.seq (.reg [.bool] [(29,.sc .bool)]) .u) (.seq .u (.seq (.blk (.loopS ⟨[.str,.int .i64,.bool,.list [.int .u8],.map [.int .i64,.int .i64] [.int .i64],.map [.int .i64,.int .i64] [.int .i64]],[(0,.ptr 0 0),(1,.full 1),(9,.map 2),(10,.map 3)],[.box [.sc .str,.sc (.int .i64),.sc .bool],.arr [.int .u8],.map [.int .i64,.int .i64] [.int .i64],.map [.int .i64,.int .i64] [.int .i64]]⟩ (fun ((o,o1,o2,out1,o3,o4):Str×Int×Bool×List Int×(List ((Int×Int)×Int))×List ((Int×Int)×Int))=>100000) 0 ⟨[.str,.int .i64,.bool,.list [.int .u8]],[(1,.full 1)],[.box [.sc .str,.sc (.int .i64),.sc .bool],.arr [.int .u8]]⟩ (.seq (.seq (.reg [.bool] [(47,.sc .bool)]) .u) (.blk (.seq .u (.seq (.blk (.seq (.reg [.bool] [(51,.sc .bool)]) .u)) (.seq (.cm [(1,[0]),(2,[0]),(3,[0]),(4,[0]),(5,[0])]) (.seq .u (.seq .u (.seq (.cm [(1,[0]),(2,[0]),(3,[0]),(4,[0])]) (.seq .u (.seq (.seq (.reg [.bool] [(129,.sc .bool)]) .u) .u)))))))))))) .u)))) Za3.S d=Za3.S.F d:=fun _=>by kernel_rfl
theorem Za3.sound:Zah Tryz.prog C0 116 Za3.S:=sE Za5 Za3.ev (Zai ⟨ZeO.sound,Zb1.sound,Zb3.sound,Zbj.sound,ZbQ.sound,ZbV.sound,add.sound,trivial⟩) Tryz.func116
def Zbm.S:ZaK:=⟨0,[.sc .str],[],[.str],⟨[.str,.int .i64,.bool],.tup [.sc .str,.sc (.int .i64),.sc .bool],[]⟩,
 fun (text:Str)=>Zbm text⟩
theorem Zbm.ev:∀d,Za4 C0 (hnd (tab [(112,Zik.S),(113,ZeO.S),(114,ZbK.S),(115,Zbl.S),(116,Zcc.S),(116,Za3.S),(117,Zaq.S),(118,Zd7.S)])) Tryz.f66 (.seq .u (.seq .u (.seq .u (.seq .u (.seq (.seq .u (.blk (.loopS ⟨[.bool,.str,.int .i64,.bool,.list [.int .u8]],[(5,.ptr 0 0),(6,.full 1),(7,.sc .bool)],[.box [.sc .str,.sc (.int .i64),.sc .bool],.arr [.int .u8]]⟩ (fun ((last,o,o1,o2,out):Bool×Str×Int×Bool×List Int)=>100000) 0 ⟨[.str,.int .i64,.bool,.list [.int .u8]],[(5,.ptr 0 0),(6,.full 1)],[.box [.sc .str,.sc (.int .i64),.sc .bool],.arr [.int .u8]]⟩ .u))) .u))))) Zbm.S d=Zbm.S.F d:=fun _=>by kernel_rfl
theorem Zbm.sound:Zah Tryz.prog C0 66 Zbm.S:=sE Za5 Zbm.ev (Zai ⟨Zik.sound,ZeO.sound,ZbK.sound,Zbl.sound,Zcc.sound,Za3.sound,Zaq.sound,Zd7.sound,trivial⟩) Tryz.func66
def Zoe.S:ZaK:=⟨0,[.sc (.int .i64),.sc (.int .i64)],[],[.int .i64,.int .i64],⟨[.int .i64],.sc (.int .i64),[]⟩,
 fun ((year,month):Int×Int)=>Zoe year month⟩
theorem Zoe.ev:∀d,Za4 C0 (hnd (tab [])) Tryz.f105 (.seq .u (.seq (.seq .u (.blk (.join ⟨[.int .i64,.int .i64,.bool],[(0,.sc (.int .i64)),(5,.sc (.int .i64)),(6,.sc .bool)],[]⟩ .u (.cond .u (.seq .u (.cond (.seq (.seq (.reg [.bool] [(25,.sc .bool)]) .u) .u) .u)))))) .u)) Zoe.S d=Zoe.S.F d:=fun _=>by kernel_rfl
theorem Zoe.sound:Zah Tryz.prog C0 105 Zoe.S:=sE Za5 Zoe.ev (Zai trivial) Tryz.func105
def Zdn.S:ZaK:=⟨0,[.agg [.sc (.int .i64),.sc (.int .i64),.sc (.int .i64),.sc (.int .i64),.sc (.int .i64),.sc (.int .i64)]],[],[.int .i64,.int .i64,.int .i64,.int .i64,.int .i64,.int .i64],⟨[.bool],.sc .bool,[]⟩,
 fun ((y,mo,d,h,mi,sec):Int×Int×Int×Int×Int×Int)=>Zdn y mo d h mi sec⟩
theorem Zdn.ev:∀d,Za4 C0 (hnd (tab [(104,Zbt.S),(105,Zoe.S)])) Tryz.f60 (.seq .u (.seq (.reg [.bool] [(2,.sc .bool)]) .u)) Zdn.S d=Zdn.S.F d:=fun _=>by kernel_rfl
theorem Zdn.sound:Zah Tryz.prog C0 60 Zdn.S:=sE Za5 Zdn.ev (Zai ⟨Zbt.sound,Zoe.sound,trivial⟩) Tryz.func60
def Zcf.S:ZaK:=⟨0,[.agg [.sc (.int .i64),.sc (.int .i64),.sc (.int .i64),.sc (.int .i64),.sc (.int .i64),.sc (.int .i64)]],[],[.int .i64,.int .i64,.int .i64,.int .i64,.int .i64,.int .i64],⟨[.int .i64],.sc (.int .i64),[]⟩,
 fun ((y,mo,d,h,mi,sec):Int×Int×Int×Int×Int×Int)=>Zcf y mo d h mi sec⟩
theorem Zcf.ev:∀d,Za4 C0 (hnd (tab [(60,Zdn.S)])) Tryz.f111 .u Zcf.S d=Zcf.S.F d:=fun _=>by kernel_rfl
theorem Zcf.sound:Zah Tryz.prog C0 111 Zcf.S:=sE Za5 Zcf.ev (Zai ⟨Zdn.sound,trivial⟩) Tryz.func111
def Zdr.S:ZaK:=⟨0,[.sc (.int .i64)],[],[.int .i64],⟨[.int .i64,.int .i64,.int .i64,.int .i64,.int .i64,.int .i64,.bool],.tup [.agg [.sc (.int .i64),.sc (.int .i64),.sc (.int .i64),.sc (.int .i64),.sc (.int .i64),.sc (.int .i64)],.sc .bool],[]⟩,
 fun (n:Int)=>Zdr n⟩
theorem Zdr.ev:∀d,Za4 C0 (hnd (tab [(111,Zcf.S)])) Tryz.f65 .u Zdr.S d=Zdr.S.F d:=fun _=>by kernel_rfl
theorem Zdr.sound:Zah Tryz.prog C0 65 Zdr.S:=sE Za5 Zdr.ev (Zai ⟨Zcf.sound,trivial⟩) Tryz.func65
def Zcm.S:ZaK:=⟨0,[.agg [.sc .str,.sc (.int .i64),.sc (.int .i64),.sc (.int .i64),.sc (.int .i64),.sc (.int .i64),.sc (.int .i64),.sc .str]],[],[.str,.int .i64,.int .i64,.int .i64,.int .i64,.int .i64,.int .i64,.str],⟨[.bool],.sc .bool,[]⟩,
 fun ((name,y,mo,d,h,mi,sec,text):Str×Int×Int×Int×Int×Int×Int×Str)=>Zcm name y mo d h mi sec text⟩
theorem Zcm.ev:∀d,Za4 C0 (hnd (tab [(49,Za1.S),(60,Zdn.S)])) Tryz.f28 (.seq .u (.seq (.reg [.bool] [(2,.sc .bool)]) .u)) Zcm.S d=Zcm.S.F d:=fun _=>by kernel_rfl
theorem Zcm.sound:Zah Tryz.prog C0 28 Zcm.S:=sE Za5 Zcm.ev (Zai ⟨Za1.sound,Zdn.sound,trivial⟩) Tryz.func28
def Zbu.S:ZaK:=⟨0,[.sc (.int .i64),.sc (.int .i64)],[],[.int .i64,.int .i64],⟨[.str],.sc .str,[]⟩,
 fun ((n,bytes):Int×Int)=>Zbu n bytes⟩
theorem Zbu.ev:∀d,Za4 C0 (hnd (tab [])) Tryz.f100 (.seq .u (.seq .u (.seq (.seq .u (.blk (.loop ⟨[.int .i64,.int .i64,.int .i64,.list [.int .u8]],[(0,.sc (.int .i64)),(5,.full 0),(7,.sc (.int .i64)),(8,.sc (.int .i64))],[.arr [.int .u8]]⟩ (fun ((n1,t,t1,out):Int×Int×Int×List Int)=>(t-t1).toNat+1) 0 ⟨[.list [.int .u8]],[(5,.full 0)],[.arr [.int .u8]]⟩ .u))) .u))) Zbu.S d=Zbu.S.F d:=fun _=>by kernel_rfl
theorem Zbu.sound:Zah Tryz.prog C0 100 Zbu.S:=sE Za5 Zbu.ev (Zai trivial) Tryz.func100
def Zba.S:ZaK:=⟨0,[.sc .str,.sc (.int .i64),.sc (.int .i64)],[],[.str,.int .i64,.int .i64],⟨[.int .i64],.sc (.int .i64),[]⟩,
 fun ((s,at_,bytes):Str×Int×Int)=>Zba s at_ bytes⟩
theorem Zba.ev:∀d,Za4 C0 (hnd (tab [])) Tryz.f64 (.seq .u (.seq .u (.seq (.seq .u (.blk (.loop ⟨[.str,.int .i64,.int .i64,.int .i64],[(0,.sc .str),(1,.sc (.int .i64)),(7,.sc (.int .i64)),(8,.sc (.int .i64))],[]⟩ (fun ((s1,at_1,n,k):Str×Int×Int×Int)=>(k-0).toNat+2) 0 ⟨[.int .i64],[(7,.sc (.int .i64))],[]⟩ .u))) .u))) Zba.S d=Zba.S.F d:=fun _=>by kernel_rfl
theorem Zba.sound:Zah Tryz.prog C0 64 Zba.S:=sE Za5 Zba.ev (Zai trivial) Tryz.func64
def ZdS.S:ZaK:=⟨0,[.agg [.sc .str,.sc (.int .i64),.sc (.int .i64),.sc (.int .i64),.sc (.int .i64),.sc (.int .i64),.sc (.int .i64),.sc .str],.sc (.int .i64),.sc (.int .i64)],[],[.str,.int .i64,.int .i64,.int .i64,.int .i64,.int .i64,.int .i64,.str,.int .i64,.int .i64],⟨[.str],.sc .str,[]⟩,
 fun ((name,y,mo,d,h,mi,sec,text,method,packed):Str×Int×Int×Int×Int×Int×Int×Str×Int×Int)=>ZdS name y mo d h mi sec text method packed⟩
theorem ZdS.ev:∀d,Za4 C0 (hnd (tab [(100,Zbu.S),(111,Zcf.S),(119,crc.S)])) Tryz.f67 .u ZdS.S d=ZdS.S.F d:=fun _=>by kernel_rfl
theorem ZdS.sound:Zah Tryz.prog C0 67 ZdS.S:=sE Za5 ZdS.ev (Zai ⟨Zbu.sound,Zcf.sound,crc.sound,trivial⟩) Tryz.func67
def Zdv.S:ZaK:=⟨0,[.agg [.sc .str,.sc (.int .i64),.sc (.int .i64),.sc (.int .i64),.sc (.int .i64),.sc (.int .i64),.sc (.int .i64),.sc .str]],[],[.str,.int .i64,.int .i64,.int .i64,.int .i64,.int .i64,.int .i64,.str],⟨[.str],.sc .str,[]⟩,
 fun ((name,y,mo,d,h,mi,sec,text):Str×Int×Int×Int×Int×Int×Int×Str)=>Zdv name y mo d h mi sec text⟩
theorem Zdv.ev:∀d,Za4 C0 (hnd (tab [(28,Zcm.S),(67,ZdS.S),(72,Za6.S)])) Tryz.f27 .u Zdv.S d=Zdv.S.F d:=fun _=>by kernel_rfl
theorem Zdv.sound:Zah Tryz.prog C0 27 Zdv.S:=sE Za5 Zdv.ev (Zai ⟨Zcm.sound,ZdS.sound,Za6.sound,trivial⟩) Tryz.func27
def Zdw.S:ZaK:=⟨0,[.sc .str],[],[.str],⟨[.str,.int .i64,.int .i64,.int .i64,.int .i64,.int .i64,.int .i64,.str,.int .i64,.bool],.tup [.agg [.sc .str,.sc (.int .i64),.sc (.int .i64),.sc (.int .i64),.sc (.int .i64),.sc (.int .i64),.sc (.int .i64),.sc .str],.sc (.int .i64),.sc .bool],[]⟩,
 fun (text:Str)=>Zdw text⟩
theorem Zdw.ev:∀d,Za4 C0 (hnd (tab [(28,Zcm.S),(64,Zba.S),(65,Zdr.S),(66,Zbm.S),(67,ZdS.S)])) Tryz.f24 (.seq .u (.seq .u (.seq .u (.seq .u (.seq (.seq (.reg [.bool] [(36,.sc .bool)]) .u) (.seq .u (.seq .u (.joinS ⟨[.str,.int .i64,.int .i64,.int .i64,.str,.int .i64,.int .i64,.int .i64,.int .i64,.int .i64,.int .i64,.str,.str,.int .i64,.int .i64,.int .i64,.int .i64,.int .i64,.int .i64,.str],[(0,.sc .str),(2,.ptr 0 0),(5,.sc (.int .i64)),(6,.sc (.int .i64)),(7,.sc (.int .i64)),(9,.ptr 1 0)],[.box [.sc .str,.sc (.int .i64),.sc (.int .i64),.sc (.int .i64),.sc (.int .i64),.sc (.int .i64),.sc (.int .i64),.sc .str],.box [.sc .str,.sc (.int .i64),.sc (.int .i64),.sc (.int .i64),.sc (.int .i64),.sc (.int .i64),.sc (.int .i64),.sc .str]]⟩ (.seq .u (.blk (.seq .u (.cond .u (.seq .u (.cond (.seq .u (.seq (.seq (.reg [.bool] [(74,.sc .bool)]) .u) .u)) .u)))))) (.seq (.seq (.reg [.bool] [(89,.sc .bool)]) .u) .u))))))))) Zdw.S d=Zdw.S.F d:=fun _=>by kernel_rfl
theorem Zdw.sound:Zah Tryz.prog C0 24 Zdw.S:=sE Za5 Zdw.ev (Zai ⟨Zcm.sound,Zba.sound,Zdr.sound,Zbm.sound,ZdS.sound,trivial⟩) Tryz.func24
def joinS.S:ZaK:=Zs9
theorem joinS.sound:Zah Tryz.prog C0 53 joinS.S:=Zuj Tryz.lays156 Tryz.Builder_Extra_156 Tryz.func53 (by kernel_rfl) (by kernel_rfl)
def Zb4.S:ZaK:=⟨0,[.sc (.list [.str,.int .i64,.int .i64,.int .i64,.int .i64,.int .i64,.int .i64,.str])],[],[.list [.str,.int .i64,.int .i64,.int .i64,.int .i64,.int .i64,.int .i64,.str]],⟨[.list [.str]],.full 0,[.arr [.str]]⟩,
 fun (list:List (Str×Int×Int×Int×Int×Int×Int×Str))=>Zb4 list⟩
theorem Zb4.ev:∀d,Za4 C0 (hnd (tab [])) Tryz.f73 (.seq .u (.seq .u (.seq (.seq .u (.blk (.loop ⟨[.list [.str,.int .i64,.int .i64,.int .i64,.int .i64,.int .i64,.int .i64,.str],.int .i64,.int .i64,.list [.str]],[(3,.full 0),(7,.sc (.list [.str,.int .i64,.int .i64,.int .i64,.int .i64,.int .i64,.int .i64,.str])),(8,.sc (.int .i64)),(9,.sc (.int .i64))],[.arr [.str]]⟩ (fun ((t,t1,t2,out):(List (Str×Int×Int×Int×Int×Int×Int×Str))×Int×Int×List Str)=>(t1-t2).toNat+1) 0 ⟨[.list [.str]],[(3,.full 0)],[.arr [.str]]⟩ .u))) .u))) Zb4.S d=Zb4.S.F d:=fun _=>by kernel_rfl
theorem Zb4.sound:Zah Tryz.prog C0 73 Zb4.S:=sE Za5 Zb4.ev (Zai trivial) Tryz.func73
def Zdz.S:ZaK:=⟨0,[.sc (.list [.str,.int .i64,.int .i64,.int .i64,.int .i64,.int .i64,.int .i64,.str])],[],[.list [.str,.int .i64,.int .i64,.int .i64,.int .i64,.int .i64,.int .i64,.str]],⟨[.bool],.sc .bool,[]⟩,
 fun (list:List (Str×Int×Int×Int×Int×Int×Int×Str))=>Zdz list⟩
theorem Zdz.ev:∀d,Za4 C0 (hnd (tab [(28,Zcm.S),(50,Zc7.S),(73,Zb4.S)])) Tryz.f30 (.seq .u (.seq (.seq .u (.blk (.loopS ⟨[.list [.str,.int .i64,.int .i64,.int .i64,.int .i64,.int .i64,.int .i64,.str],.list [.str,.int .i64,.int .i64,.int .i64,.int .i64,.int .i64,.int .i64,.str],.int .i64,.int .i64],[(0,.sc (.list [.str,.int .i64,.int .i64,.int .i64,.int .i64,.int .i64,.int .i64,.str])),(5,.sc (.list [.str,.int .i64,.int .i64,.int .i64,.int .i64,.int .i64,.int .i64,.str])),(6,.sc (.int .i64)),(7,.sc (.int .i64))],[]⟩ (fun ((list1,t,t1,t2):(List (Str×Int×Int×Int×Int×Int×Int×Str))×(List (Str×Int×Int×Int×Int×Int×Int×Str))×Int×Int)=>(t1-t2).toNat+1) 0 ⟨[.list [.str,.int .i64,.int .i64,.int .i64,.int .i64,.int .i64,.int .i64,.str]],[(0,.sc (.list [.str,.int .i64,.int .i64,.int .i64,.int .i64,.int .i64,.int .i64,.str]))],[]⟩ .u))) .u)) Zdz.S d=Zdz.S.F d:=fun _=>by kernel_rfl
theorem Zdz.sound:Zah Tryz.prog C0 30 Zdz.S:=sE Za5 Zdz.ev (Zai ⟨Zcm.sound,Zc7.sound,Zb4.sound,trivial⟩) Tryz.func30
def ZbD.S:ZaK:=⟨0,[.sc (.list [.str])],[],[.list [.str]],⟨[.str],.sc .str,[]⟩,
 fun (locals:List Str)=>ZbD locals⟩
theorem ZbD.ev:∀d,Za4 C0 (hnd (tab [(64,Zba.S),(100,Zbu.S)])) Tryz.f54 (.seq .u (.seq .u (.seq .u (.seq (.seq .u (.blk (.loop ⟨[.list [.str],.str,.int .i64,.list [.str],.int .i64,.int .i64],[(0,.sc (.list [.str])),(3,.sc .str),(4,.sc (.int .i64)),(9,.sc (.list [.str])),(10,.sc (.int .i64)),(11,.sc (.int .i64))],[]⟩ (fun ((locals1,heads,at_,t,t1,t2):List Str×Str×Int×List Str×Int×Int)=>(t1-t2).toNat+1) 0 ⟨[.list [.str],.str,.int .i64],[(0,.sc (.list [.str])),(3,.sc .str),(4,.sc (.int .i64))],[]⟩ .u))) .u)))) ZbD.S d=ZbD.S.F d:=fun _=>by kernel_rfl
theorem ZbD.sound:Zah Tryz.prog C0 54 ZbD.S:=sE Za5 ZbD.ev (Zai ⟨Zba.sound,Zbu.sound,trivial⟩) Tryz.func54
def ZcW.S:ZaK:=⟨0,[.sc (.list [.str,.int .i64,.int .i64,.int .i64,.int .i64,.int .i64,.int .i64,.str])],[],[.list [.str,.int .i64,.int .i64,.int .i64,.int .i64,.int .i64,.int .i64,.str]],⟨[.str],.sc .str,[]⟩,
 fun (list:List (Str×Int×Int×Int×Int×Int×Int×Str))=>ZcW list⟩
theorem ZcW.ev:∀d,Za4 C0 (hnd (tab [(27,Zdv.S),(30,Zdz.S),(53,joinS.S),(54,ZbD.S)])) Tryz.f18 (.seq .u (.seq .u (.seq .u (.seq (.seq .u (.blk (.loop ⟨[.list [.str,.int .i64,.int .i64,.int .i64,.int .i64,.int .i64,.int .i64,.str],.int .i64,.int .i64,.list [.str]],[(3,.full 0),(10,.sc (.list [.str,.int .i64,.int .i64,.int .i64,.int .i64,.int .i64,.int .i64,.str])),(11,.sc (.int .i64)),(12,.sc (.int .i64))],[.arr [.str]]⟩ (fun ((t,t1,t2,locals):(List (Str×Int×Int×Int×Int×Int×Int×Str))×Int×Int×List Str)=>(t1-t2).toNat+1) 0 ⟨[.list [.str]],[(3,.full 0)],[.arr [.str]]⟩ .u))) .u)))) ZcW.S d=ZcW.S.F d:=fun _=>by kernel_rfl
theorem ZcW.sound:Zah Tryz.prog C0 18 ZcW.S:=sE Za5 ZcW.ev (Zai ⟨Zdv.sound,Zdz.sound,joinS.sound,ZbD.sound,trivial⟩) Tryz.func18
def Zcv.S:ZaK:=⟨0,[.sc .str],[],[.str],⟨[.bool,.list [.str,.int .i64,.int .i64,.int .i64,.int .i64,.int .i64,.int .i64,.str]],.tup [.full 0,.sc .bool],[.arr [.str,.int .i64,.int .i64,.int .i64,.int .i64,.int .i64,.int .i64,.str]]⟩,
 fun (text:Str)=>Zcv text⟩
theorem Zcv.ev:∀d,Za4 C0 (hnd (tab [(24,Zdw.S),(30,Zdz.S),(54,ZbD.S)])) Tryz.f29 (.seq .u (.seq .u (.seq .u (.seq .u (.seq (.blk (.loop ⟨[.str,.list [.str,.int .i64,.int .i64,.int .i64,.int .i64,.int .i64,.int .i64,.str],.list [.str]],[(4,.full 0),(5,.full 1),(6,.sc .str)],[.arr [.str,.int .i64,.int .i64,.int .i64,.int .i64,.int .i64,.int .i64,.str],.arr [.str]]⟩ (fun ((rest,out,locals):Str×(List (Str×Int×Int×Int×Int×Int×Int×Str))×List Str)=>(6-(out.length:Int)).toNat+1) 0 ⟨[.str,.list [.str,.int .i64,.int .i64,.int .i64,.int .i64,.int .i64,.int .i64,.str],.list [.str]],[(4,.full 0),(5,.full 1),(6,.sc .str)],[.arr [.str,.int .i64,.int .i64,.int .i64,.int .i64,.int .i64,.int .i64,.str],.arr [.str]]⟩ .u)) (.seq (.seq (.reg [.bool] [(45,.sc .bool)]) .u) .u)))))) Zcv.S d=Zcv.S.F d:=fun _=>by kernel_rfl
theorem Zcv.sound:Zah Tryz.prog C0 29 Zcv.S:=sE Za5 Zcv.ev (Zai ⟨Zdw.sound,Zdz.sound,ZbD.sound,trivial⟩) Tryz.func29
def itoa.S:ZaK:=Ztb
theorem itoa.sound:Zah Tryz.prog C0 80 itoa.S:=Zuk Tryz.laysM171 (g:=2) (by kernel_rfl) (by kernel_rfl) Tryz.func80 (by kernel_rfl) (by kernel_rfl)
def ZdD.S:ZaK:=⟨0,[.sc .str,.cstr [10]],[],[.str],⟨[.int .i64],.sc (.int .i64),[]⟩,
 fun (s:Str)=>ZdD s⟩
theorem ZdD.ev:∀d,Za4 C0 (hnd (tab [(196,Zbi.S)])) Tryz.f173 (.seq .u (.seq .u (.seq (.blk (.seq (.reg [.bool] [(16,.sc .bool)]) .u)) .u))) ZdD.S d=ZdD.S.F d:=fun _=>by kernel_rfl
theorem ZdD.sound:Zah Tryz.prog C0 173 ZdD.S:=sE Za5 ZdD.ev (Zai ⟨Zbi.sound,trivial⟩) Tryz.func173
def ZdY.S:ZaK:=⟨0,[.sc .str,.cstr [32]],[],[.str],⟨[.int .i64],.sc (.int .i64),[]⟩,
 fun (s:Str)=>ZdY s⟩
theorem ZdY.ev:∀d,Za4 C0 (hnd (tab [(196,Zbi.S)])) Tryz.f173 (.seq .u (.seq .u (.seq (.blk (.seq (.reg [.bool] [(16,.sc .bool)]) .u)) .u))) ZdY.S d=ZdY.S.F d:=fun _=>by kernel_rfl
theorem ZdY.sound:Zah Tryz.prog C0 173 ZdY.S:=sE Za5 ZdY.ev (Zai ⟨Zbi.sound,trivial⟩) Tryz.func173
def Ze7.S:ZaK:=⟨0,[.sc .str,.cstr [10]],[],[.str],⟨[.str,.str,.bool],.tup [.sc .str,.sc .str,.sc .bool],[]⟩,
 fun (s:Str)=>Ze7 s⟩
theorem Ze7.ev:∀d,Za4 C0 (hnd (tab [(173,Zdg.S),(173,ZdD.S),(173,ZdY.S)])) Tryz.f132 .u Ze7.S d=Ze7.S.F d:=fun _=>by kernel_rfl
theorem Ze7.sound:Zah Tryz.prog C0 132 Ze7.S:=sE Za5 Ze7.ev (Zai ⟨Zdg.sound,ZdD.sound,ZdY.sound,trivial⟩) Tryz.func132
def ZfI.S:ZaK:=⟨0,[.sc .str,.cstr [32]],[],[.str],⟨[.str,.str,.bool],.tup [.sc .str,.sc .str,.sc .bool],[]⟩,
 fun (s:Str)=>ZfI s⟩
theorem ZfI.ev:∀d,Za4 C0 (hnd (tab [(173,Zdg.S),(173,ZdD.S),(173,ZdY.S)])) Tryz.f132 .u ZfI.S d=ZfI.S.F d:=fun _=>by kernel_rfl
theorem ZfI.sound:Zah Tryz.prog C0 132 ZfI.S:=sE Za5 ZfI.ev (Zai ⟨Zdg.sound,ZdD.sound,ZdY.sound,trivial⟩) Tryz.func132
def Zje.S:ZaK:=⟨0,[.sc .str,.cstr [10]],[],[.str],⟨[.str,.str,.bool],.tup [.sc .str,.sc .str,.sc .bool],[]⟩,
 fun (s:Str)=>Zje s⟩
theorem Zje.ev:∀d,Za4 C0 (hnd (tab [(132,Ze7.S),(132,ZfI.S)])) Tryz.f83 .u Zje.S d=Zje.S.F d:=fun _=>by kernel_rfl
theorem Zje.sound:Zah Tryz.prog C0 83 Zje.S:=sE Za5 Zje.ev (Zai ⟨Ze7.sound,ZfI.sound,trivial⟩) Tryz.func83
def Zmv.S:ZaK:=⟨0,[.sc .str,.cstr [32]],[],[.str],⟨[.str,.str,.bool],.tup [.sc .str,.sc .str,.sc .bool],[]⟩,
 fun (s:Str)=>Zmv s⟩
theorem Zmv.ev:∀d,Za4 C0 (hnd (tab [(132,Ze7.S),(132,ZfI.S)])) Tryz.f83 .u Zmv.S d=Zmv.S.F d:=fun _=>by kernel_rfl
theorem Zmv.sound:Zah Tryz.prog C0 83 Zmv.S:=sE Za5 Zmv.ev (Zai ⟨Ze7.sound,ZfI.sound,trivial⟩) Tryz.func83
def ZcE.S:ZaK:=⟨0,[.sc .str],[],[.str],⟨[.bool],.sc .bool,[]⟩,
 fun (text:Str)=>ZcE text⟩
theorem ZcE.ev:∀d,Za4 C0 (hnd (tab [(29,Zcv.S)])) Tryz.f79 .u ZcE.S d=ZcE.S.F d:=fun _=>by kernel_rfl
theorem ZcE.sound:Zah Tryz.prog C0 79 ZcE.S:=sE Za5 ZcE.ev (Zai ⟨Zcv.sound,trivial⟩) Tryz.func79
def Zc4.S:ZaK:=⟨0,[.agg [.sc .str,.sc .str]],[],[.str,.str],⟨[.bool],.sc .bool,[]⟩,
 fun ((text,log):Str×Str)=>Zc4 text log⟩
theorem Zc4.ev:∀d,Za4 C0 (hnd (tab [(79,ZcE.S)])) Tryz.f39 (.seq .u (.seq (.reg [.bool] [(2,.sc .bool)]) .u)) Zc4.S d=Zc4.S.F d:=fun _=>by kernel_rfl
theorem Zc4.sound:Zah Tryz.prog C0 39 Zc4.S:=sE Za5 Zc4.ev (Zai ⟨ZcE.sound,trivial⟩) Tryz.func39
def Zel.S:ZaK:=⟨0,[.sc (.list [.str,.int .i64,.int .i64,.int .i64,.int .i64,.int .i64,.int .i64,.str])],[],[.list [.str,.int .i64,.int .i64,.int .i64,.int .i64,.int .i64,.int .i64,.str]],⟨[.str,.str,.bool],.tup [.agg [.sc .str,.sc .str],.sc .bool],[]⟩,
 fun (list:List (Str×Int×Int×Int×Int×Int×Int×Str))=>Zel list⟩
theorem Zel.ev:∀d,Za4 C0 (hnd (tab [(18,ZcW.S),(30,Zdz.S)])) Tryz.f43 .u Zel.S d=Zel.S.F d:=fun _=>by kernel_rfl
theorem Zel.sound:Zah Tryz.prog C0 43 Zel.S:=sE Za5 Zel.ev (Zai ⟨ZcW.sound,Zdz.sound,trivial⟩) Tryz.func43
def Zck.S:ZaK:=⟨0,[.agg [.sc .str,.sc .str],.sc .str,.sc (.int .i64)],[],[.str,.str,.str,.int .i64],⟨[.str,.str],.agg [.sc .str,.sc .str],[]⟩,
 fun ((dtext,dlog,text,bytes):Str×Str×Str×Int)=>Zck dtext dlog text bytes⟩
theorem Zck.ev:∀d,Za4 C0 (hnd (tab [(39,Zc4.S),(79,ZcE.S),(80,itoa.S)])) Tryz.f34 (.seq .u (.seq (.seq (.reg [.bool] [(15,.sc .bool)]) .u) .u)) Zck.S d=Zck.S.F d:=fun _=>by kernel_rfl
theorem Zck.sound:Zah Tryz.prog C0 34 Zck.S:=sE Za5 Zck.ev (Zai ⟨Zc4.sound,ZcE.sound,itoa.sound,trivial⟩) Tryz.func34
def Zbq.S:ZaK:=⟨0,[.agg [.sc .str,.sc .str]],[],[.str,.str],⟨[.str,.str,.bool],.tup [.agg [.sc .str,.sc .str],.sc .bool],[]⟩,
 fun ((text,log):Str×Str)=>Zbq text log⟩
theorem Zbq.ev:∀d,Za4 C0 (hnd (tab [(79,ZcE.S),(80,itoa.S),(83,Zje.S),(83,Zmv.S)])) Tryz.f38 (.seq .u (.seq .u (.seq (.seq (.reg [.bool] [(22,.sc .bool)]) .u) .u))) Zbq.S d=Zbq.S.F d:=fun _=>by kernel_rfl
theorem Zbq.sound:Zah Tryz.prog C0 38 Zbq.S:=sE Za5 Zbq.ev (Zai ⟨ZcE.sound,itoa.sound,Zje.sound,Zmv.sound,trivial⟩) Tryz.func38
def ZeT.S:ZaK:=⟨0,[.sc (.int .i64)],[],[.int .i64],⟨[.str],.sc .str,[]⟩,
 fun (n:Int)=>ZeT n⟩
def ZeT.SF (k_:Nat):ZaK:=⟨0,[.sc (.int .i64)],[],[.int .i64],⟨[.str],.sc .str,[]⟩,
 fun (n:Int)=>ZlZ k_ n⟩
theorem ZeT.ev (k_:Nat):∀d,Za4 C0 (hnd (tab [(131,ZeT.SF k_)])) Tryz.f131 .u (ZeT.SF (k_+1)) d=(ZeT.SF (k_+1)).F d:=fun _=>by kernel_rfl
theorem ZeT.soundF:∀k_:Nat,Zah Tryz.prog C0 131 (ZeT.SF k_)
 | 0=>⟨rfl,fun _ _ h=>by cases h⟩
 | k_+1=>Zac Za5 (Zai (l:=[(131,ZeT.SF k_)]) ⟨ZeT.soundF k_,trivial⟩) Tryz.func131 (by kernel_rfl) (by kernel_rfl) (by kernel_rfl) (ZeT.ev k_)
theorem ZeT.sound:Zah Tryz.prog C0 131 ZeT.S:=ZeT.soundF 30
def ZeF.S:ZaK:=⟨0,[.sc .str],[],[.str],⟨[.int .i64],.sc (.int .i64),[]⟩,
 fun (s:Str)=>ZeF s⟩
theorem ZeF.ev:∀d,Za4 C0 (hnd (tab [])) Tryz.f86 (.seq .u (.seq .u (.seq (.seq .u (.blk (.loopS ⟨[.str,.int .i64,.int .i64],[(0,.sc .str),(3,.sc (.int .i64)),(4,.sc (.int .i64))],[]⟩ (fun ((s1,n,i):Str×Int×Int)=>((s1.length:Int)-i).toNat+1) 0 ⟨[.str,.int .i64],[(0,.sc .str),(3,.sc (.int .i64))],[]⟩ (.seq .u (.seq (.blk (.seq (.seq (.reg [.bool] [(24,.sc .bool)]) .u) .u)) .u))))) (.seq (.seq (.reg [.bool] [(45,.sc .bool)]) .u) .u)))) ZeF.S d=ZeF.S.F d:=fun _=>by kernel_rfl
theorem ZeF.sound:Zah Tryz.prog C0 86 ZeF.S:=sE Za5 ZeF.ev (Zai trivial) Tryz.func86
def ZcG.S:ZaK:=⟨0,[.sc (.int .i64)],[],[.int .i64],⟨[.int .i64],.sc (.int .i64),[]⟩,
 fun (n:Int)=>ZcG n⟩
theorem ZcG.ev:∀d,Za4 C0 (hnd (tab [])) Tryz.f235 (.seq .u (.seq .u (.seq (.blk (.loop ⟨[.int .i64,.int .i64],[(0,.sc (.int .i64)),(3,.sc (.int .i64))],[]⟩ (fun ((n1,out):Int×Int)=>(n1-0).toNat+1) 0 ⟨[.int .i64],[(3,.sc (.int .i64))],[]⟩ .u)) .u))) ZcG.S d=ZcG.S.F d:=fun _=>by kernel_rfl
theorem ZcG.sound:Zah Tryz.prog C0 235 ZcG.S:=sE Za5 ZcG.ev (Zai trivial) Tryz.func235
def Zd3.S:ZaK:=⟨1,[.ptr 0 0,.sc (.int .i64),.sc (.int .i64)],[.box [.full 1,.sc (.int .i64),.sc (.int .i64)],.arr [.int .u8]],[.int .i64,.int .i64,.int .i64,.int .i64,.list [.int .u8]],⟨[.int .i64,.int .i64,.list [.int .u8]],.tup [],[.box [.full 1,.sc (.int .i64),.sc (.int .i64)],.arr [.int .u8]]⟩,
 fun ((num,bits,last,fill,text):Int×Int×Int×Int×List Int)=>Zd3 num bits last fill text⟩
theorem Zd3.ev:∀d,Za4 C0 (hnd (tab [(235,ZcG.S)])) Tryz.f218 (.seq .u (.blk (.loop ⟨[.int .i64,.int .i64,.int .i64,.int .i64,.int .i64,.list [.int .u8]],[(0,.ptr 0 0),(1,.sc (.int .i64)),(2,.sc (.int .i64)),(6,.sc (.int .i64))],[.box [.full 1,.sc (.int .i64),.sc (.int .i64)],.arr [.int .u8]]⟩ (fun ((num1,bits1,k,o,o1,o2):Int×Int×Int×Int×Int×List Int)=>(bits1-k).toNat+1) 0 ⟨[.int .i64,.int .i64,.list [.int .u8]],[],[.box [.full 1,.sc (.int .i64),.sc (.int .i64)],.arr [.int .u8]]⟩ (.seq .u (.seq (.blk (.seq .u (.seq .u (.seq .u (.seq .u (.cond (.seq (.cm [(0,[1])]) .u) .u)))))) .u))))) Zd3.S d=Zd3.S.F d:=fun _=>by kernel_rfl
theorem Zd3.sound:Zah Tryz.prog C0 218 Zd3.S:=sE Za5 Zd3.ev (Zai ⟨ZcG.sound,trivial⟩) Tryz.func218
end Ev
end
section
open Go Go.Proofs
set_option maxRecDepth 100000
namespace Ev
set_option maxHeartbeats 1000000
def ZdA.S:ZaK:=⟨1,[.ptr 0 0],[.box [.full 1,.sc (.int .i64),.sc (.int .i64)],.arr [.int .u8]],[.int .i64,.int .i64,.list [.int .u8]],⟨[.int .i64,.int .i64,.list [.int .u8]],.tup [],[.box [.full 1,.sc (.int .i64),.sc (.int .i64)],.arr [.int .u8]]⟩,
 fun ((last,fill,text):Int×Int×List Int)=>ZdA last fill text⟩
theorem ZdA.ev:∀d,Za4 C0 (hnd (tab [(218,Zd3.S)])) Tryz.f219 .u ZdA.S d=ZdA.S.F d:=fun _=>by kernel_rfl
theorem ZdA.sound:Zah Tryz.prog C0 219 ZdA.S:=sE Za5 ZdA.ev (Zai ⟨Zd3.sound,trivial⟩) Tryz.func219
def ZjF.S:ZaK:=⟨1,[.ptr 0 0],[.box [.sc .str,.sc (.int .i64),.sc .bool]],[.str,.int .i64,.bool],⟨[.int .i64,.str,.int .i64,.bool],.sc (.int .i64),[.box [.sc .str,.sc (.int .i64),.sc .bool]]⟩,
 fun ((s,at_,bad):Str×Int×Bool)=>ZjF s at_ bad⟩
theorem ZjF.ev:∀d,Za4 C0 (hnd (tab [(235,ZcG.S)])) Tryz.f228 .u ZjF.S d=ZjF.S.F d:=fun _=>by kernel_rfl
theorem ZjF.sound:Zah Tryz.prog C0 228 ZjF.S:=sE Za5 ZjF.ev (Zai ⟨ZcG.sound,trivial⟩) Tryz.func228
def ZeY.S:ZaK:=⟨1,[.ptr 0 0,.sc (.int .i64)],[.box [.sc .str,.sc (.int .i64),.sc .bool]],[.int .i64,.str,.int .i64,.bool],⟨[.int .i64,.str,.int .i64,.bool],.sc (.int .i64),[.box [.sc .str,.sc (.int .i64),.sc .bool]]⟩,
 fun ((bits,s,at_,bad):Int×Str×Int×Bool)=>ZeY bits s at_ bad⟩
theorem ZeY.ev:∀d,Za4 C0 (hnd (tab [(228,ZjF.S),(235,ZcG.S)])) Tryz.f229 (.seq .u (.seq .u (.seq (.seq .u (.blk (.loop ⟨[.int .i64,.int .i64,.int .i64,.str,.int .i64,.bool],[(0,.ptr 0 0),(1,.sc (.int .i64)),(5,.sc (.int .i64)),(6,.sc (.int .i64))],[.box [.sc .str,.sc (.int .i64),.sc .bool]]⟩ (fun ((bits1,n,k,o,o1,o2):Int×Int×Int×Str×Int×Bool)=>(bits1-k).toNat+1) 0 ⟨[.int .i64,.str,.int .i64,.bool],[(5,.sc (.int .i64))],[.box [.sc .str,.sc (.int .i64),.sc .bool]]⟩ .u))) .u))) ZeY.S d=ZeY.S.F d:=fun _=>by kernel_rfl
theorem ZeY.sound:Zah Tryz.prog C0 229 ZeY.S:=sE Za5 ZeY.ev (Zai ⟨ZjF.sound,ZcG.sound,trivial⟩) Tryz.func229
def ZcI.S:ZaK:=⟨1,[.ptr 0 0],[.box [.sc .str,.sc (.int .i64),.sc .bool]],[.str,.int .i64,.bool],⟨[.bool,.str,.int .i64,.bool],.sc .bool,[.box [.sc .str,.sc (.int .i64),.sc .bool]]⟩,
 fun ((s,at_,bad):Str×Int×Bool)=>ZcI s at_ bad⟩
theorem ZcI.ev:∀d,Za4 C0 (hnd (tab [(228,ZjF.S)])) Tryz.f208 (.seq .u (.seq .u (.seq (.blk (.loop ⟨[.int .i64,.str,.int .i64,.bool],[(0,.ptr 0 0),(3,.sc (.int .i64))],[.box [.sc .str,.sc (.int .i64),.sc .bool]]⟩ (fun ((n,o,o1,o2):Int×Str×Int×Bool)=>9) 0 ⟨[.int .i64,.str,.int .i64,.bool],[(3,.sc (.int .i64))],[.box [.sc .str,.sc (.int .i64),.sc .bool]]⟩ .u)) .u))) ZcI.S d=ZcI.S.F d:=fun _=>by kernel_rfl
theorem ZcI.sound:Zah Tryz.prog C0 208 ZcI.S:=sE Za5 ZcI.ev (Zai ⟨ZjF.sound,trivial⟩) Tryz.func208
def Zc2.S:ZaK:=⟨0,[.sc (.int .i64),.sc (.int .i64)],[],[.int .i64,.int .i64],⟨[.int .i64],.sc (.int .i64),[]⟩,
 fun ((num,bits):Int×Int)=>Zc2 num bits⟩
theorem Zc2.ev:∀d,Za4 C0 (hnd (tab [])) Tryz.f255 (.seq .u (.seq .u (.seq (.seq .u (.blk (.loop ⟨[.int .i64,.int .i64,.int .i64,.int .i64],[(0,.sc (.int .i64)),(1,.sc (.int .i64)),(5,.sc (.int .i64)),(6,.sc (.int .i64))],[]⟩ (fun ((num1,bits1,n,k):Int×Int×Int×Int)=>(bits1-k).toNat+1) 0 ⟨[.int .i64],[(5,.sc (.int .i64))],[]⟩ .u))) .u))) Zc2.S d=Zc2.S.F d:=fun _=>by kernel_rfl
theorem Zc2.sound:Zah Tryz.prog C0 255 Zc2.S:=sE Za5 Zc2.ev (Zai trivial) Tryz.func255
def Zc1.S:ZaK:=⟨0,[.sc (.int .u32),.sc (.int .u8)],[],[.int .u32,.int .u8],⟨[.int .u32],.sc (.int .u32),[]⟩,
 fun ((c,b):Int×Int)=>Zc1 c b⟩
theorem Zc1.ev:∀d,Za4 C0 (hnd (tab [])) Tryz.f189 (.seq .u (.seq .u (.seq (.seq .u (.blk (.loop ⟨[.int .u32,.int .i64],[(0,.sc (.int .u32)),(5,.sc (.int .i64))],[]⟩ (fun ((c1,k):Int×Int)=>(8-k).toNat+1) 0 ⟨[.int .u32],[(0,.sc (.int .u32))],[]⟩ .u))) .u))) Zc1.S d=Zc1.S.F d:=fun _=>by kernel_rfl
theorem Zc1.sound:Zah Tryz.prog C0 189 Zc1.S:=sE Za5 Zc1.ev (Zai trivial) Tryz.func189
def Zc8.S:ZaK:=⟨0,[.sc (.int .u32),.sc .str],[],[.int .u32,.str],⟨[.int .u32],.sc (.int .u32),[]⟩,
 fun ((crc_,text):Int×Str)=>Zc8 crc_ text⟩
theorem Zc8.ev:∀d,Za4 C0 (hnd (tab [(189,Zc1.S)])) Tryz.f161 (.seq .u (.seq .u (.seq (.seq .u (.blk (.loop ⟨[.str,.int .u32,.int .i64],[(1,.sc .str),(5,.sc (.int .u32)),(6,.sc (.int .i64))],[]⟩ (fun ((text1,c,i):Str×Int×Int)=>((text1.length:Int)-i).toNat+1) 0 ⟨[.int .u32],[(5,.sc (.int .u32))],[]⟩ .u))) .u))) Zc8.S d=Zc8.S.F d:=fun _=>by kernel_rfl
theorem Zc8.sound:Zah Tryz.prog C0 161 Zc8.S:=sE Za5 Zc8.ev (Zai ⟨Zc1.sound,trivial⟩) Tryz.func161
def Zdo.S:ZaK:=⟨0,[.sc .str],[],[.str],⟨[.int .i64],.sc (.int .i64),[]⟩,
 fun (text:Str)=>Zdo text⟩
theorem Zdo.ev:∀d,Za4 C0 (hnd (tab [(161,Zc8.S)])) Tryz.f125 .u Zdo.S d=Zdo.S.F d:=fun _=>by kernel_rfl
theorem Zdo.sound:Zah Tryz.prog C0 125 Zdo.S:=sE Za5 Zdo.ev (Zai ⟨Zc8.sound,trivial⟩) Tryz.func125
def ZcA.S:ZaK:=⟨0,[.sc (.list [.int .i64])],[],[.list [.int .i64]],⟨[.int .i64],.sc (.int .i64),[]⟩,
 fun (lens:List Int)=>ZcA lens⟩
theorem ZcA.ev:∀d,Za4 C0 (hnd (tab [])) Tryz.f243 (.seq .u (.seq .u (.seq (.seq .u (.blk (.loop ⟨[.list [.int .i64],.int .i64,.int .i64],[(0,.sc (.list [.int .i64])),(3,.sc (.int .i64)),(4,.sc (.int .i64))],[]⟩ (fun ((lens1,n,i):List Int×Int×Int)=>((lens1.length:Int)-i).toNat+1) 0 ⟨[.int .i64],[(3,.sc (.int .i64))],[]⟩ .u))) .u))) ZcA.S d=ZcA.S.F d:=fun _=>by kernel_rfl
theorem ZcA.sound:Zah Tryz.prog C0 243 ZcA.S:=sE Za5 ZcA.ev (Zai trivial) Tryz.func243
def ZaN.S:ZaK:=⟨0,[.sc (.list [.int .i64])],[],[.list [.int .i64]],⟨[.bool],.sc .bool,[]⟩,
 fun (lens:List Int)=>ZaN lens⟩
theorem ZaN.ev:∀d,Za4 C0 (hnd (tab [(88,Zhc.S),(235,ZcG.S),(243,ZcA.S)])) Tryz.f249 (.seq .u (.seq .u (.seq (.seq .u (.blk (.loopS ⟨[.list [.int .i64],.int .i64,.int .i64],[(0,.sc (.list [.int .i64])),(3,.sc (.int .i64)),(4,.sc (.int .i64))],[]⟩ (fun ((lens1,sum,i):List Int×Int×Int)=>((lens1.length:Int)-i).toNat+1) 0 ⟨[.list [.int .i64],.int .i64],[(0,.sc (.list [.int .i64])),(3,.sc (.int .i64))],[]⟩ .u))) (.seq (.reg [.bool] [(5,.sc .bool)]) (.seq (.reg [.bool] [(2,.sc .bool)]) .u))))) ZaN.S d=ZaN.S.F d:=fun _=>by kernel_rfl
theorem ZaN.sound:Zah Tryz.prog C0 249 ZaN.S:=sE Za5 ZaN.ev (Zai ⟨Zhc.sound,ZcG.sound,ZcA.sound,trivial⟩) Tryz.func249
def ZaL.S:ZaK:=⟨0,[.sc (.list [.int .i64])],[],[.list [.int .i64]],⟨[.list [.int .i64]],.full 0,[.arr [.int .i64]]⟩,
 fun (lens:List Int)=>ZaL lens⟩
theorem ZaL.ev:∀d,Za4 C0 (hnd (tab [])) Tryz.f236 (.seq .u (.seq .u (.seq .u (.seq (.seq .u (.blk (.loop ⟨[.list [.int .i64],.int .i64,.int .i64,.list [.int .i64]],[(0,.sc (.list [.int .i64])),(3,.full 0),(4,.sc (.int .i64)),(5,.sc (.int .i64))],[.arr [.int .i64]]⟩ (fun ((lens1,code_,n,out):List Int×Int×Int×List Int)=>(15-n).toNat+2) 0 ⟨[.list [.int .i64]],[(3,.full 0)],[.arr [.int .i64]]⟩ (.seq .u (.seq (.blk (.seq (.seq .u (.blk (.loop ⟨[.list [.int .i64],.int .i64,.int .i64,.int .i64,.list [.int .i64]],[(0,.sc (.list [.int .i64])),(3,.full 0),(4,.sc (.int .i64)),(5,.sc (.int .i64)),(6,.sc (.int .i64))],[.arr [.int .i64]]⟩ (fun ((lens2,code_1,n1,i,out1):List Int×Int×Int×Int×List Int)=>((lens2.length:Int)-i).toNat+1) 2 ⟨[.list [.int .i64],.int .i64,.int .i64,.list [.int .i64]],[(0,.sc (.list [.int .i64])),(3,.full 0),(4,.sc (.int .i64)),(5,.sc (.int .i64))],[.arr [.int .i64]]⟩ .u))) .u)) .u))))) .u)))) ZaL.S d=ZaL.S.F d:=fun _=>by kernel_rfl
theorem ZaL.sound:Zah Tryz.prog C0 236 ZaL.S:=sE Za5 ZaL.ev (Zai trivial) Tryz.func236
def ZbY.S:ZaK:=⟨0,[.sc (.list [.int .i64,.int .i64,.ints .i64])],[],[.list [.int .i64,.int .i64,.ints .i64]],⟨[.int .i64],.sc (.int .i64),[]⟩,
 fun (list:List (Int×Int×List Int))=>ZbY list⟩
theorem ZbY.ev:∀d,Za4 C0 (hnd (tab [])) Tryz.f252 (.seq .u (.seq .u (.seq (.seq .u (.blk (.loop ⟨[.list [.int .i64,.int .i64,.ints .i64],.int .i64,.int .i64],[(0,.sc (.list [.int .i64,.int .i64,.ints .i64])),(3,.sc (.int .i64)),(4,.sc (.int .i64))],[]⟩ (fun ((list1,at_,i):(List (Int×Int×List Int))×Int×Int)=>((list1.length:Int)-i).toNat+1) 0 ⟨[.int .i64],[(3,.sc (.int .i64))],[]⟩ (.seq .u (.seq (.blk (.seq (.reg [.bool] [(47,.sc .bool)]) .u)) .u))))) .u))) ZbY.S d=ZbY.S.F d:=fun _=>by kernel_rfl
theorem ZbY.sound:Zah Tryz.prog C0 252 ZbY.S:=sE Za5 ZbY.ev (Zai trivial) Tryz.func252
def ZfD.S:ZaK:=⟨0,[.sc (.list [.int .i64,.int .i64,.ints .i64]),.sc (.int .i64)],[],[.list [.int .i64,.int .i64,.ints .i64],.int .i64],⟨[.list [.int .i64,.int .i64,.ints .i64]],.full 0,[.arr [.int .i64,.int .i64,.ints .i64]]⟩,
 fun ((list,at_):(List (Int×Int×List Int))×Int)=>ZfD list at_⟩
theorem ZfD.ev:∀d,Za4 C0 (hnd (tab [])) Tryz.f253 .u ZfD.S d=ZfD.S.F d:=fun _=>by kernel_rfl
theorem ZfD.sound:Zah Tryz.prog C0 253 ZfD.S:=sE Za5 ZfD.ev (Zai trivial) Tryz.func253
def Zbf.S:ZaK:=⟨0,[.sc (.list [.int .i64])],[],[.list [.int .i64]],⟨[.list [.int .i64]],.full 0,[.arr [.int .i64]]⟩,
 fun (counts:List Int)=>Zbf counts⟩
theorem Zbf.ev:∀d,Za4 C0 (hnd (tab [(252,ZbY.S),(253,ZfD.S)])) Tryz.f244 (.seq .u (.seq .u (.seq .u (.seq (.seq .u (.blk (.loop ⟨[.list [.int .i64],.int .i64,.list [.int .i64],.list [.int .i64,.int .i64,.ints .i64]],[(0,.sc (.list [.int .i64])),(3,.full 0),(4,.full 1),(5,.sc (.int .i64))],[.arr [.int .i64],.arr [.int .i64,.int .i64,.ints .i64]]⟩ (fun ((counts1,i,out,list):List Int×Int×List Int×List (Int×Int×List Int))=>((counts1.length:Int)-i).toNat+1) 0 ⟨[.list [.int .i64],.list [.int .i64,.int .i64,.ints .i64]],[(3,.full 0),(4,.full 1)],[.arr [.int .i64],.arr [.int .i64,.int .i64,.ints .i64]]⟩ .u))) (.join ⟨[.list [.int .i64],.list [.int .i64,.int .i64,.ints .i64]],[(3,.full 0),(4,.full 1)],[.arr [.int .i64],.arr [.int .i64,.int .i64,.ints .i64]]⟩ .u (.seq (.blk (.loop ⟨[.list [.int .i64],.list [.int .i64,.int .i64,.ints .i64]],[(3,.full 0),(4,.full 1)],[.arr [.int .i64],.arr [.int .i64,.int .i64,.ints .i64]]⟩ (fun ((out3,list3):List Int×List (Int×Int×List Int))=>((list3.length:Int)-1).toNat+1) 2 ⟨[.list [.int .i64]],[(3,.full 0)],[.arr [.int .i64]]⟩ (.seq .u (.blk (.seq .u (.seq .u (.seq .u (.seq .u (.seq .u (.seq .u (.seq .u (.join ⟨[.int .i64,.list [.int .i64],.list [.int .i64,.int .i64,.ints .i64],.int .i64,.int .i64,.list [.int .i64],.int .i64,.int .i64,.list [.int .i64]],[(3,.full 0),(4,.full 1),(7,.ptr 2 0),(8,.ptr 3 0),(9,.sc (.int .i64))],[.arr [.int .i64],.arr [.int .i64,.int .i64,.ints .i64],.box [.sc (.int .i64),.sc (.int .i64),.sc (.list [.int .i64])],.box [.sc (.int .i64),.sc (.int .i64),.sc (.list [.int .i64])]]⟩ .u (.seq .u (.seq (.seq .u (.blk (.loop ⟨[.int .i64,.int .i64,.list [.int .i64],.list [.int .i64,.int .i64,.ints .i64],.int .i64,.int .i64,.list [.int .i64],.int .i64,.int .i64,.list [.int .i64],.list [.int .i64]],[(3,.full 0),(4,.full 1),(7,.ptr 2 0),(8,.ptr 3 0),(9,.sc (.int .i64)),(10,.full 4),(11,.sc (.int .i64))],[.arr [.int .i64],.arr [.int .i64,.int .i64,.ints .i64],.box [.sc (.int .i64),.sc (.int .i64),.sc (.list [.int .i64])],.box [.sc (.int .i64),.sc (.int .i64),.sc (.list [.int .i64])],.arr [.int .i64]]⟩ (fun ((first1,i1,out5,list5,o6,o7,o8,o9,o10,o11,syms):Int×Int×List Int×(List (Int×Int×List Int))×Int×Int×List Int×Int×Int×List Int×List Int)=>((syms.length:Int)-i1).toNat+1) 4 ⟨[.int .i64,.list [.int .i64],.list [.int .i64,.int .i64,.ints .i64],.int .i64,.int .i64,.list [.int .i64],.int .i64,.int .i64,.list [.int .i64],.list [.int .i64]],[(3,.full 0),(4,.full 1),(7,.ptr 2 0),(8,.ptr 3 0),(9,.sc (.int .i64)),(10,.full 4)],[.arr [.int .i64],.arr [.int .i64,.int .i64,.ints .i64],.box [.sc (.int .i64),.sc (.int .i64),.sc (.list [.int .i64])],.box [.sc (.int .i64),.sc (.int .i64),.sc (.list [.int .i64])],.arr [.int .i64]]⟩ .u))) .u)))))))))))))) .u)))))) Zbf.S d=Zbf.S.F d:=fun _=>by kernel_rfl
theorem Zbf.sound:Zah Tryz.prog C0 244 Zbf.S:=sE Za5 Zbf.ev (Zai ⟨ZbY.sound,ZfD.sound,trivial⟩) Tryz.func244
def Zc0.S:ZaK:=⟨0,[.sc (.list [.int .i64])],[],[.list [.int .i64]],⟨[.int .i64],.sc (.int .i64),[]⟩,
 fun (lens:List Int)=>Zc0 lens⟩
theorem Zc0.ev:∀d,Za4 C0 (hnd (tab [])) Tryz.f245 (.seq .u (.seq .u (.seq (.seq .u (.blk (.loop ⟨[.list [.int .i64],.int .i64,.int .i64],[(0,.sc (.list [.int .i64])),(3,.sc (.int .i64)),(4,.sc (.int .i64))],[]⟩ (fun ((lens1,n,i):List Int×Int×Int)=>((lens1.length:Int)-i).toNat+1) 0 ⟨[.int .i64],[(3,.sc (.int .i64))],[]⟩ .u))) .u))) Zc0.S d=Zc0.S.F d:=fun _=>by kernel_rfl
theorem Zc0.sound:Zah Tryz.prog C0 245 Zc0.S:=sE Za5 Zc0.ev (Zai trivial) Tryz.func245
def ZcL.S:ZaK:=⟨0,[.sc (.list [.int .i64]),.sc (.int .i64)],[],[.list [.int .i64],.int .i64],⟨[.list [.int .i64]],.full 0,[.arr [.int .i64]]⟩,
 fun ((counts,most):List Int×Int)=>ZcL counts most⟩
theorem ZcL.ev:∀d,Za4 C0 (hnd (tab [(244,Zbf.S),(245,Zc0.S)])) Tryz.f226 (.seq .u (.seq .u (.seq .u (.seq (.blk (.loop ⟨[.int .i64,.list [.int .i64],.list [.int .i64]],[(1,.sc (.int .i64)),(5,.full 0),(6,.full 1)],[.arr [.int .i64],.arr [.int .i64]]⟩ (fun ((most1,list,out):Int×List Int×List Int)=>100000) 0 ⟨[.list [.int .i64]],[(6,.full 0)],[.arr [.int .i64]]⟩ (.seq .u (.blk (.seq (.seq .u (.blk (.loop ⟨[.int .i64,.int .i64,.list [.int .i64]],[(1,.sc (.int .i64)),(5,.full 0),(7,.sc (.int .i64))],[.arr [.int .i64]]⟩ (fun ((most2,i,list1):Int×Int×List Int)=>((list1.length:Int)-i).toNat+1) 2 ⟨[.int .i64,.list [.int .i64]],[(1,.sc (.int .i64)),(5,.full 0)],[.arr [.int .i64]]⟩ .u))) .u))))) .u)))) ZcL.S d=ZcL.S.F d:=fun _=>by kernel_rfl
theorem ZcL.sound:Zah Tryz.prog C0 226 ZcL.S:=sE Za5 ZcL.ev (Zai ⟨Zbf.sound,Zc0.sound,trivial⟩) Tryz.func226
def ZeD.S:ZaK:=⟨0,[.sc (.list [.int .i64]),.sc (.list [.int .i64]),.sc (.int .i64)],[],[.list [.int .i64],.list [.int .i64],.int .i64],⟨[.int .i64,.int .i64],.agg [.sc (.int .i64),.sc (.int .i64)],[]⟩,
 fun ((lens,codes_,sym):List Int×List Int×Int)=>ZeD lens codes_ sym⟩
theorem ZeD.ev:∀d,Za4 C0 (hnd (tab [(255,Zc2.S)])) Tryz.f251 .u ZeD.S d=ZeD.S.F d:=fun _=>by kernel_rfl
theorem ZeD.sound:Zah Tryz.prog C0 251 ZeD.S:=sE Za5 ZeD.ev (Zai ⟨Zc2.sound,trivial⟩) Tryz.func251
def ZaS.S:ZaK:=⟨1,[.ptr 0 0,.sc (.list [.int .i64]),.sc (.list [.int .i64])],[.box [.sc .str,.sc (.int .i64),.sc .bool]],[.list [.int .i64],.list [.int .i64],.str,.int .i64,.bool],⟨[.int .i64,.str,.int .i64,.bool],.sc (.int .i64),[.box [.sc .str,.sc (.int .i64),.sc .bool]]⟩,
 fun ((lens,codes_,s,at_,bad):List Int×List Int×Str×Int×Bool)=>ZaS lens codes_ s at_ bad⟩
theorem ZaS.ev:∀d,Za4 C0 (hnd (tab [(228,ZjF.S)])) Tryz.f247 (.seq .u (.seq .u (.seq (.seq .u (.blk (.loopS ⟨[.list [.int .i64],.list [.int .i64],.int .i64,.int .i64,.str,.int .i64,.bool],[(0,.ptr 0 0),(1,.sc (.list [.int .i64])),(2,.sc (.list [.int .i64])),(7,.sc (.int .i64)),(8,.sc (.int .i64))],[.box [.sc .str,.sc (.int .i64),.sc .bool]]⟩ (fun ((lens1,codes_1,code_,n,o,o1,o2):List Int×List Int×Int×Int×Str×Int×Bool)=>(15-n).toNat+2) 0 ⟨[.str,.int .i64,.bool],[(0,.ptr 0 0)],[.box [.sc .str,.sc (.int .i64),.sc .bool]]⟩ (.seq (.seq (.reg [.bool] [(18,.sc .bool)]) .u) (.seq (.blk (.seq .u (.seq .u (.blk (.loopS ⟨[.list [.int .i64],.list [.int .i64],.int .i64,.int .i64,.int .i64,.str,.int .i64,.bool],[(0,.ptr 0 0),(1,.sc (.list [.int .i64])),(2,.sc (.list [.int .i64])),(7,.sc (.int .i64)),(8,.sc (.int .i64)),(9,.sc (.int .i64))],[.box [.sc .str,.sc (.int .i64),.sc .bool]]⟩ (fun ((lens2,codes_2,code_1,n1,i,o3,o4,o5):List Int×List Int×Int×Int×Int×Str×Int×Bool)=>((lens2.length:Int)-i).toNat+1) 2 ⟨[.list [.int .i64],.list [.int .i64],.int .i64,.int .i64,.str,.int .i64,.bool],[(0,.ptr 0 0),(1,.sc (.list [.int .i64])),(2,.sc (.list [.int .i64])),(7,.sc (.int .i64)),(8,.sc (.int .i64))],[.box [.sc .str,.sc (.int .i64),.sc .bool]]⟩ (.seq .u (.seq (.blk (.seq (.reg [.bool] [(45,.sc .bool)]) .u)) .u))))))) .u))))) .u))) ZaS.S d=ZaS.S.F d:=fun _=>by kernel_rfl
theorem ZaS.sound:Zah Tryz.prog C0 247 ZaS.S:=sE Za5 ZaS.ev (Zai ⟨ZjF.sound,trivial⟩) Tryz.func247
def ZeC.S:ZaK:=⟨0,[.full 0,.agg [.sc (.int .i64),.sc (.int .i64),.sc (.int .i64)]],[.arr [.int .u8]],[.int .i64,.int .i64,.int .i64,.list [.int .u8]],⟨[.bool,.list [.int .u8]],.tup [.full 0,.sc .bool],[.arr [.int .u8]]⟩,
 fun ((byte,long,back,text):Int×Int×Int×List Int)=>ZeC byte long back text⟩
theorem ZeC.ev:∀d,Za4 C0 (hnd (tab [(88,Zhc.S)])) Tryz.f254 (.seq .u (.seq .u (.seq (.seq (.reg [.bool] [(45,.sc .bool)]) .u) (.seq (.seq .u (.blk (.loop ⟨[.int .i64,.list [.int .u8],.int .i64,.int .i64,.int .i64],[(0,.full 0),(3,.ptr 1 0),(6,.sc (.int .i64))],[.arr [.int .u8],.box [.sc (.int .i64),.sc (.int .i64),.sc (.int .i64)]]⟩ (fun ((i,text1,o,o1,o2):Int×List Int×Int×Int×Int)=>(o1-i).toNat+1) 0 ⟨[.list [.int .u8]],[(0,.full 0)],[.arr [.int .u8]]⟩ .u))) .u)))) ZeC.S d=ZeC.S.F d:=fun _=>by kernel_rfl
theorem ZeC.sound:Zah Tryz.prog C0 254 ZeC.S:=sE Za5 ZeC.ev (Zai ⟨Zhc.sound,trivial⟩) Tryz.func254
def Zb6.S:ZaK:=⟨0,[.sc .str,.sc (.int .i64),.sc (.int .i64)],[],[.str,.int .i64,.int .i64],⟨[.int .i64],.sc (.int .i64),[]⟩,
 fun ((text,at_,back):Str×Int×Int)=>Zb6 text at_ back⟩
theorem Zb6.ev:∀d,Za4 C0 (hnd (tab [])) Tryz.f242 (.seq .u (.seq .u (.seq (.blk (.loop ⟨[.str,.int .i64,.int .i64,.int .i64],[(0,.sc .str),(1,.sc (.int .i64)),(2,.sc (.int .i64)),(7,.sc (.int .i64))],[]⟩ (fun ((text1,at_1,back1,n):Str×Int×Int×Int)=>62) 0 ⟨[.int .i64],[(7,.sc (.int .i64))],[]⟩ (.seq (.seq (.reg [.bool] [(32,.sc .bool)]) .u) .u))) .u))) Zb6.S d=Zb6.S.F d:=fun _=>by kernel_rfl
theorem Zb6.sound:Zah Tryz.prog C0 242 Zb6.S:=sE Za5 Zb6.ev (Zai trivial) Tryz.func242
def ZaH.S:ZaK:=⟨0,[.sc .str],[],[.str],⟨[.list [.int .i64,.int .i64,.int .i64]],.full 0,[.arr [.int .i64,.int .i64,.int .i64]]⟩,
 fun (text:Str)=>ZaH text⟩
theorem ZaH.ev:∀d,Za4 C0 (hnd (tab [(242,Zb6.S)])) Tryz.f221 (.seq .u (.seq .u (.seq (.seq .u (.blk (.loop ⟨[.str,.int .i64,.list [.int .i64,.int .i64,.int .i64]],[(0,.sc .str),(3,.full 0),(4,.sc (.int .i64))],[.arr [.int .i64,.int .i64,.int .i64]]⟩ (fun ((text1,at_,out):Str×Int×List (Int×Int×Int))=>((text1.length:Int)-at_).toNat+1) 0 ⟨[.list [.int .i64,.int .i64,.int .i64]],[(3,.full 0)],[.arr [.int .i64,.int .i64,.int .i64]]⟩ (.seq .u (.blk (.seq .u (.seq .u (.seq (.seq .u (.blk (.loop ⟨[.str,.int .i64,.int .i64,.int .i64,.int .i64,.list [.int .i64,.int .i64,.int .i64]],[(0,.sc .str),(3,.full 0),(4,.sc (.int .i64)),(5,.sc (.int .i64)),(6,.sc (.int .i64)),(7,.sc (.int .i64))],[.arr [.int .i64,.int .i64,.int .i64]]⟩ (fun ((text2,at_1,long,far,back,out1):Str×Int×Int×Int×Int×List (Int×Int×Int))=>(250-back).toNat+2) 2 ⟨[.str,.int .i64,.int .i64,.int .i64,.list [.int .i64,.int .i64,.int .i64]],[(0,.sc .str),(3,.full 0),(4,.sc (.int .i64)),(5,.sc (.int .i64)),(6,.sc (.int .i64))],[.arr [.int .i64,.int .i64,.int .i64]]⟩ (.seq (.seq (.reg [.bool] [(20,.sc .bool)]) .u) .u)))) .u)))))))) .u))) ZaH.S d=ZaH.S.F d:=fun _=>by kernel_rfl
theorem ZaH.sound:Zah Tryz.prog C0 221 ZaH.S:=sE Za5 ZaH.ev (Zai ⟨Zb6.sound,trivial⟩) Tryz.func221
def ZcK.S:ZaK:=⟨0,[.sc (.list [.int .i64]),.sc (.int .i64)],[],[.list [.int .i64],.int .i64],⟨[.list [.int .i64]],.full 0,[.arr [.int .i64]]⟩,
 fun ((extra,from_):List Int×Int)=>ZcK extra from_⟩
theorem ZcK.ev:∀d,Za4 C0 (hnd (tab [(235,ZcG.S)])) Tryz.f237 (.seq .u (.seq .u (.seq (.seq .u (.blk (.loop ⟨[.list [.int .i64],.int .i64,.int .i64,.list [.int .i64]],[(0,.sc (.list [.int .i64])),(1,.sc (.int .i64)),(5,.full 0),(6,.sc (.int .i64))],[.arr [.int .i64]]⟩ (fun ((extra1,from_1,i,out):List Int×Int×Int×List Int)=>((extra1.length:Int)-i).toNat+1) 0 ⟨[.list [.int .i64]],[(5,.full 0)],[.arr [.int .i64]]⟩ .u))) .u))) ZcK.S d=ZcK.S.F d:=fun _=>by kernel_rfl
theorem ZcK.sound:Zah Tryz.prog C0 237 ZcK.S:=sE Za5 ZcK.ev (Zai ⟨ZcG.sound,trivial⟩) Tryz.func237
def Zbb.S:ZaK:=⟨0,[],[],[],⟨[.list [.int .i64]],.full 0,[.arr [.int .i64]]⟩,
 fun (_:Unit)=>Zbb⟩
theorem Zbb.ev:∀d,Za4 C0 (hnd (tab [])) Tryz.f238 .u Zbb.S d=Zbb.S.F d:=fun _=>by kernel_rfl
theorem Zbb.sound:Zah Tryz.prog C0 238 Zbb.S:=sE Za5 Zbb.ev (Zai trivial) Tryz.func238
def Zbc.S:ZaK:=⟨0,[],[],[],⟨[.list [.int .i64]],.full 0,[.arr [.int .i64]]⟩,
 fun (_:Unit)=>Zbc⟩
theorem Zbc.ev:∀d,Za4 C0 (hnd (tab [])) Tryz.f239 .u Zbc.S d=Zbc.S.F d:=fun _=>by kernel_rfl
theorem Zbc.sound:Zah Tryz.prog C0 239 Zbc.S:=sE Za5 Zbc.ev (Zai trivial) Tryz.func239
def ZeS.S:ZaK:=⟨0,[.sc (.list [.int .i64]),.sc (.int .i64)],[],[.list [.int .i64],.int .i64],⟨[.int .i64],.sc (.int .i64),[]⟩,
 fun ((base,n):List Int×Int)=>ZeS base n⟩
theorem ZeS.ev:∀d,Za4 C0 (hnd (tab [])) Tryz.f241 (.seq .u (.seq .u (.seq (.blk (.loop ⟨[.list [.int .i64],.int .i64,.int .i64],[(0,.sc (.list [.int .i64])),(1,.sc (.int .i64)),(5,.sc (.int .i64))],[]⟩ (fun ((base1,n1,k):List Int×Int×Int)=>(base1.length:Int).toNat+1) 0 ⟨[.int .i64],[(5,.sc (.int .i64))],[]⟩ (.seq (.seq (.reg [.bool] [(19,.sc .bool)]) .u) .u))) .u))) ZeS.S d=ZeS.S.F d:=fun _=>by kernel_rfl
theorem ZeS.sound:Zah Tryz.prog C0 241 ZeS.S:=sE Za5 ZeS.ev (Zai trivial) Tryz.func241
def ZcQ.S:ZaK:=⟨0,[],[],[],⟨[.list [.int .i64]],.full 0,[.arr [.int .i64]]⟩,
 fun (_:Unit)=>ZcQ⟩
theorem ZcQ.ev:∀d,Za4 C0 (hnd (tab [])) Tryz.f222 (.seq .u (.seq .u (.seq (.seq .u (.blk (.loop ⟨[.int .i64,.list [.int .i64]],[(1,.full 0),(2,.sc (.int .i64))],[.arr [.int .i64]]⟩ (fun ((i,out):Int×List Int)=>(288-i).toNat+1) 0 ⟨[.list [.int .i64]],[(1,.full 0)],[.arr [.int .i64]]⟩ .u))) .u))) ZcQ.S d=ZcQ.S.F d:=fun _=>by kernel_rfl
theorem ZcQ.sound:Zah Tryz.prog C0 222 ZcQ.S:=sE Za5 ZcQ.ev (Zai trivial) Tryz.func222
def ZcR.S:ZaK:=⟨0,[],[],[],⟨[.list [.int .i64]],.full 0,[.arr [.int .i64]]⟩,
 fun (_:Unit)=>ZcR⟩
theorem ZcR.ev:∀d,Za4 C0 (hnd (tab [])) Tryz.f223 (.seq .u (.seq .u (.seq (.seq .u (.blk (.loop ⟨[.int .i64,.list [.int .i64]],[(1,.full 0),(2,.sc (.int .i64))],[.arr [.int .i64]]⟩ (fun ((i,out):Int×List Int)=>(32-i).toNat+1) 0 ⟨[.list [.int .i64]],[(1,.full 0)],[.arr [.int .i64]]⟩ .u))) .u))) ZcR.S d=ZcR.S.F d:=fun _=>by kernel_rfl
theorem ZcR.sound:Zah Tryz.prog C0 223 ZcR.S:=sE Za5 ZcR.ev (Zai trivial) Tryz.func223
def ZmY.S:ZaK:=⟨1,[.ptr 0 0,.sc (.list [.int .i64]),.sc (.list [.int .i64]),.sc (.int .i64)],[.box [.full 1,.sc (.int .i64),.sc (.int .i64)],.arr [.int .u8]],[.list [.int .i64],.list [.int .i64],.int .i64,.int .i64,.int .i64,.list [.int .u8]],⟨[.int .i64,.int .i64,.list [.int .u8]],.tup [],[.box [.full 1,.sc (.int .i64),.sc (.int .i64)],.arr [.int .u8]]⟩,
 fun ((lens,codes_,sym,last,fill,text):List Int×List Int×Int×Int×Int×List Int)=>ZmY lens codes_ sym last fill text⟩
theorem ZmY.ev:∀d,Za4 C0 (hnd (tab [(218,Zd3.S),(251,ZeD.S)])) Tryz.f240 .u ZmY.S d=ZmY.S.F d:=fun _=>by kernel_rfl
theorem ZmY.sound:Zah Tryz.prog C0 240 ZmY.S:=sE Za5 ZmY.ev (Zai ⟨Zd3.sound,ZeD.sound,trivial⟩) Tryz.func240
def ZbG.S:ZaK:=⟨1,[.ptr 0 0,.sc (.list [.int .i64,.int .i64,.int .i64]),.sc (.list [.int .i64]),.sc (.list [.int .i64])],[.box [.full 1,.sc (.int .i64),.sc (.int .i64)],.arr [.int .u8]],[.list [.int .i64,.int .i64,.int .i64],.list [.int .i64],.list [.int .i64],.int .i64,.int .i64,.list [.int .u8]],⟨[.int .i64,.int .i64,.list [.int .u8]],.tup [],[.box [.full 1,.sc (.int .i64),.sc (.int .i64)],.arr [.int .u8]]⟩,
 fun ((list,longs,backs,last,fill,text):(List (Int×Int×Int))×List Int×List Int×Int×Int×List Int)=>ZbG list longs backs last fill text⟩
theorem ZbG.ev:∀d,Za4 C0 (hnd (tab [(218,Zd3.S),(236,ZaL.S),(237,ZcK.S),(238,Zbb.S),(239,Zbc.S),(240,ZmY.S),(241,ZeS.S)])) Tryz.f220 (.seq .u (.seq .u (.seq .u (.seq .u (.seq (.seq .u (.blk (.loop ⟨[.list [.int .i64,.int .i64,.int .i64],.list [.int .i64],.list [.int .i64],.int .i64,.int .i64,.int .i64,.list [.int .i64],.list [.int .i64],.list [.int .i64],.list [.int .i64],.list [.int .u8]],[(0,.ptr 0 0),(1,.sc (.list [.int .i64,.int .i64,.int .i64])),(2,.sc (.list [.int .i64])),(3,.sc (.list [.int .i64])),(8,.full 1),(9,.full 2),(10,.full 3),(11,.full 4),(12,.sc (.int .i64))],[.box [.full 5,.sc (.int .i64),.sc (.int .i64)],.arr [.int .i64],.arr [.int .i64],.arr [.int .i64],.arr [.int .i64],.arr [.int .u8]]⟩ (fun ((list1,longs1,backs1,i,o,o1,a,b,long,back,o2):(List (Int×Int×Int))×List Int×List Int×Int×Int×Int×List Int×List Int×List Int×List Int×List Int)=>((list1.length:Int)-i).toNat+1) 0 ⟨[.list [.int .i64],.int .i64,.int .i64,.list [.int .i64],.list [.int .u8]],[(0,.ptr 0 0),(2,.sc (.list [.int .i64])),(8,.full 1)],[.box [.full 2,.sc (.int .i64),.sc (.int .i64)],.arr [.int .i64],.arr [.int .u8]]⟩ .u))) .u))))) ZbG.S d=ZbG.S.F d:=fun _=>by kernel_rfl
theorem ZbG.sound:Zah Tryz.prog C0 220 ZbG.S:=sE Za5 ZbG.ev (Zai ⟨Zd3.sound,ZaL.sound,ZcK.sound,Zbb.sound,Zbc.sound,ZmY.sound,ZeS.sound,trivial⟩) Tryz.func220
end Ev
end
section
open Go Go.Proofs
set_option maxRecDepth 100000
namespace Ev
set_option maxHeartbeats 1000000
def Zeg.S:ZaK:=⟨0,[.sc .str],[],[.str],⟨[.str],.sc .str,[]⟩,
 fun (text:Str)=>Zeg text⟩
theorem Zeg.ev:∀d,Za4 C0 (hnd (tab [(218,Zd3.S),(219,ZdA.S)])) Tryz.f204 .u Zeg.S d=Zeg.S.F d:=fun _=>by kernel_rfl
theorem Zeg.sound:Zah Tryz.prog C0 204 Zeg.S:=sE Za5 Zeg.ev (Zai ⟨Zd3.sound,ZdA.sound,trivial⟩) Tryz.func204
def Zeh.S:ZaK:=⟨0,[.sc .str],[],[.str],⟨[.str],.sc .str,[]⟩,
 fun (text:Str)=>Zeh text⟩
theorem Zeh.ev:∀d,Za4 C0 (hnd (tab [(218,Zd3.S),(219,ZdA.S),(220,ZbG.S),(221,ZaH.S),(222,ZcQ.S),(223,ZcR.S)])) Tryz.f205 .u Zeh.S d=Zeh.S.F d:=fun _=>by kernel_rfl
theorem Zeh.sound:Zah Tryz.prog C0 205 Zeh.S:=sE Za5 Zeh.ev (Zai ⟨Zd3.sound,ZdA.sound,ZbG.sound,ZaH.sound,ZcQ.sound,ZcR.sound,trivial⟩) Tryz.func205
def Zbw.S:ZaK:=⟨0,[.sc (.list [.int .i64,.int .i64,.int .i64])],[],[.list [.int .i64,.int .i64,.int .i64]],⟨[.list [.int .i64],.list [.int .i64]],.tup [.full 0,.full 1],[.arr [.int .i64],.arr [.int .i64]]⟩,
 fun (list:List (Int×Int×Int))=>Zbw list⟩
theorem Zbw.ev:∀d,Za4 C0 (hnd (tab [(237,ZcK.S),(238,Zbb.S),(239,Zbc.S),(241,ZeS.S),(243,ZcA.S)])) Tryz.f224 (.seq .u (.seq .u (.seq .u (.seq .u (.seq .u (.seq .u (.seq (.seq .u (.blk (.loop ⟨[.list [.int .i64,.int .i64,.int .i64],.int .i64,.list [.int .i64],.list [.int .i64],.list [.int .i64],.list [.int .i64]],[(0,.sc (.list [.int .i64,.int .i64,.int .i64])),(4,.full 0),(5,.full 1),(6,.full 2),(7,.full 3),(8,.sc (.int .i64))],[.arr [.int .i64],.arr [.int .i64],.arr [.int .i64],.arr [.int .i64]]⟩ (fun ((list1,i,longs,backs,long,back):(List (Int×Int×Int))×Int×List Int×List Int×List Int×List Int)=>((list1.length:Int)-i).toNat+1) 0 ⟨[.list [.int .i64],.list [.int .i64]],[(4,.full 0),(5,.full 1)],[.arr [.int .i64],.arr [.int .i64]]⟩ .u))) .u))))))) Zbw.S d=Zbw.S.F d:=fun _=>by kernel_rfl
theorem Zbw.sound:Zah Tryz.prog C0 224 Zbw.S:=sE Za5 Zbw.ev (Zai ⟨ZcK.sound,Zbb.sound,Zbc.sound,ZeS.sound,ZcA.sound,trivial⟩) Tryz.func224
def Zcw.S:ZaK:=⟨0,[.sc (.list [.int .i64]),.sc (.int .i64)],[],[.list [.int .i64],.int .i64],⟨[.list [.int .i64]],.sc (.list [.int .i64]),[]⟩,
 fun ((lens,least_):List Int×Int)=>Zcw lens least_⟩
theorem Zcw.ev:∀d,Za4 C0 (hnd (tab [])) Tryz.f225 (.seq .u (.seq .u (.seq (.blk (.loop ⟨[.list [.int .i64],.int .i64,.int .i64],[(0,.sc (.list [.int .i64])),(1,.sc (.int .i64)),(5,.sc (.int .i64))],[]⟩ (fun ((lens1,least_1,n):List Int×Int×Int)=>(n-least_1).toNat+1) 0 ⟨[.list [.int .i64],.int .i64],[(0,.sc (.list [.int .i64])),(5,.sc (.int .i64))],[]⟩ (.seq (.seq (.reg [.bool] [(18,.sc .bool)]) .u) .u))) .u))) Zcw.S d=Zcw.S.F d:=fun _=>by kernel_rfl
theorem Zcw.sound:Zah Tryz.prog C0 225 Zcw.S:=sE Za5 Zcw.ev (Zai trivial) Tryz.func225
def Zdp.S:ZaK:=⟨0,[],[],[],⟨[.list [.int .i64]],.full 0,[.arr [.int .i64]]⟩,
 fun (_:Unit)=>Zdp⟩
theorem Zdp.ev:∀d,Za4 C0 (hnd (tab [])) Tryz.f246 .u Zdp.S d=Zdp.S.F d:=fun _=>by kernel_rfl
theorem Zdp.sound:Zah Tryz.prog C0 246 Zdp.S:=sE Za5 Zdp.ev (Zai trivial) Tryz.func246
def Zcd.S:ZaK:=⟨1,[.ptr 0 0,.sc (.list [.int .i64]),.sc (.list [.int .i64])],[.box [.full 1,.sc (.int .i64),.sc (.int .i64)],.arr [.int .u8]],[.list [.int .i64],.list [.int .i64],.int .i64,.int .i64,.list [.int .u8]],⟨[.int .i64,.int .i64,.list [.int .u8]],.tup [],[.box [.full 1,.sc (.int .i64),.sc (.int .i64)],.arr [.int .u8]]⟩,
 fun ((longs,backs,last,fill,text):List Int×List Int×Int×Int×List Int)=>Zcd longs backs last fill text⟩
theorem Zcd.ev:∀d,Za4 C0 (hnd (tab [(218,Zd3.S),(226,ZcL.S),(236,ZaL.S),(240,ZmY.S),(246,Zdp.S)])) Tryz.f227 (.seq .u (.seq .u (.seq (.seq .u (.blk (.loop ⟨[.list [.int .i64],.list [.int .i64],.int .i64,.int .i64,.int .i64,.list [.int .i64],.list [.int .i64],.list [.int .u8]],[(0,.ptr 0 0),(1,.sc (.list [.int .i64])),(2,.sc (.list [.int .i64])),(6,.full 1),(7,.full 2),(8,.sc (.int .i64))],[.box [.full 3,.sc (.int .i64),.sc (.int .i64)],.arr [.int .i64],.arr [.int .i64],.arr [.int .u8]]⟩ (fun ((longs1,backs1,i,o,o1,all,counts,o2):List Int×List Int×Int×Int×Int×List Int×List Int×List Int)=>((all.length:Int)-i).toNat+1) 0 ⟨[.list [.int .i64],.list [.int .i64],.int .i64,.int .i64,.list [.int .i64],.list [.int .i64],.list [.int .u8]],[(0,.ptr 0 0),(1,.sc (.list [.int .i64])),(2,.sc (.list [.int .i64])),(6,.full 1),(7,.full 2)],[.box [.full 3,.sc (.int .i64),.sc (.int .i64)],.arr [.int .i64],.arr [.int .i64],.arr [.int .u8]]⟩ .u))) (.seq .u (.seq .u (.seq .u (.seq .u (.seq .u (.seq (.seq .u (.blk (.loop ⟨[.int .i64,.int .i64,.int .i64,.list [.int .i64],.list [.int .i64],.list [.int .i64],.list [.int .u8]],[(0,.ptr 0 0),(6,.full 1),(9,.full 2),(10,.full 3),(11,.sc (.int .i64))],[.box [.full 4,.sc (.int .i64),.sc (.int .i64)],.arr [.int .i64],.arr [.int .i64],.arr [.int .i64],.arr [.int .u8]]⟩ (fun ((i1,o6,o7,all2,lens,codes_,o8):Int×Int×Int×List Int×List Int×List Int×List Int)=>(19-i1).toNat+1) 2 ⟨[.int .i64,.int .i64,.list [.int .i64],.list [.int .i64],.list [.int .i64],.list [.int .u8]],[(0,.ptr 0 0),(6,.full 1),(9,.full 2),(10,.full 3)],[.box [.full 4,.sc (.int .i64),.sc (.int .i64)],.arr [.int .i64],.arr [.int .i64],.arr [.int .i64],.arr [.int .u8]]⟩ .u))) (.seq .u (.blk (.loop ⟨[.int .i64,.int .i64,.int .i64,.list [.int .i64],.list [.int .i64],.list [.int .i64],.list [.int .u8]],[(0,.ptr 0 0),(6,.full 1),(9,.full 2),(10,.full 3),(12,.sc (.int .i64))],[.box [.full 4,.sc (.int .i64),.sc (.int .i64)],.arr [.int .i64],.arr [.int .i64],.arr [.int .i64],.arr [.int .u8]]⟩ (fun ((i2,o12,o13,all4,lens2,codes_2,o14):Int×Int×Int×List Int×List Int×List Int×List Int)=>((all4.length:Int)-i2).toNat+1) 4 ⟨[.int .i64,.int .i64,.list [.int .u8]],[],[.box [.full 1,.sc (.int .i64),.sc (.int .i64)],.arr [.int .u8]]⟩ .u)))))))))))) Zcd.S d=Zcd.S.F d:=fun _=>by kernel_rfl
theorem Zcd.sound:Zah Tryz.prog C0 227 Zcd.S:=sE Za5 Zcd.ev (Zai ⟨Zd3.sound,ZcL.sound,ZaL.sound,ZmY.sound,Zdp.sound,trivial⟩) Tryz.func227
def ZiZ.S:ZaK:=⟨0,[.sc .str],[],[.str],⟨[.str],.sc .str,[]⟩,
 fun (text:Str)=>ZiZ text⟩
theorem ZiZ.ev:∀d,Za4 C0 (hnd (tab [(218,Zd3.S),(219,ZdA.S),(220,ZbG.S),(221,ZaH.S),(224,Zbw.S),(225,Zcw.S),(226,ZcL.S),(227,Zcd.S)])) Tryz.f206 .u ZiZ.S d=ZiZ.S.F d:=fun _=>by kernel_rfl
theorem ZiZ.sound:Zah Tryz.prog C0 206 ZiZ.S:=sE Za5 ZiZ.ev (Zai ⟨Zd3.sound,ZdA.sound,ZbG.sound,ZaH.sound,Zbw.sound,Zcw.sound,ZcL.sound,Zcd.sound,trivial⟩) Tryz.func206
def Zao.S:ZaK:=⟨0,[.sc .str],[],[.str],⟨[.str],.sc .str,[]⟩,
 fun (text:Str)=>Zao text⟩
theorem Zao.ev:∀d,Za4 C0 (hnd (tab [(204,Zeg.S),(205,Zeh.S),(206,ZiZ.S)])) Tryz.f186 (.seq .u (.seq .u (.seq .u (.seq .u (.seq (.seq .u (.blk (.loop ⟨[.str,.int .i64,.list [.str]],[(3,.sc .str),(4,.full 0),(5,.sc (.int .i64))],[.arr [.str]]⟩ (fun ((out,i,list):Str×Int×List Str)=>((list.length:Int)-i).toNat+1) 0 ⟨[.str],[(3,.sc .str)],[]⟩ .u))) .u))))) Zao.S d=Zao.S.F d:=fun _=>by kernel_rfl
theorem Zao.sound:Zah Tryz.prog C0 186 Zao.S:=sE Za5 Zao.ev (Zai ⟨Zeg.sound,Zeh.sound,ZiZ.sound,trivial⟩) Tryz.func186
def ZbJ.S:ZaK:=⟨1,[.ptr 0 0,.full 1],[.box [.sc .str,.sc (.int .i64),.sc .bool],.arr [.int .u8]],[.str,.int .i64,.bool,.list [.int .u8]],⟨[.str,.int .i64,.bool,.list [.int .u8]],.full 1,[.box [.sc .str,.sc (.int .i64),.sc .bool],.arr [.int .u8]]⟩,
 fun ((s,at_,bad,text):Str×Int×Bool×List Int)=>ZbJ s at_ bad text⟩
theorem ZbJ.ev:∀d,Za4 C0 (hnd (tab [(208,ZcI.S),(229,ZeY.S)])) Tryz.f230 (.seq .u (.join ⟨[.str,.int .i64,.bool,.list [.int .u8]],[(0,.ptr 0 0),(1,.full 1)],[.box [.sc .str,.sc (.int .i64),.sc .bool],.arr [.int .u8]]⟩ .u (.seq .u (.join ⟨[.int .i64,.str,.int .i64,.bool,.list [.int .u8]],[(0,.ptr 0 0),(1,.full 1),(5,.sc (.int .i64))],[.box [.sc .str,.sc (.int .i64),.sc .bool],.arr [.int .u8]]⟩ .u (.seq (.seq .u (.blk (.loop ⟨[.int .i64,.int .i64,.str,.int .i64,.bool,.list [.int .u8]],[(0,.ptr 0 0),(1,.full 1),(5,.sc (.int .i64)),(6,.sc (.int .i64))],[.box [.sc .str,.sc (.int .i64),.sc .bool],.arr [.int .u8]]⟩ (fun ((n1,i,o6,o7,o8,text3):Int×Int×Str×Int×Bool×List Int)=>(n1-i).toNat+1) 0 ⟨[.str,.int .i64,.bool,.list [.int .u8]],[(1,.full 1)],[.box [.sc .str,.sc (.int .i64),.sc .bool],.arr [.int .u8]]⟩ (.seq (.seq (.reg [.bool] [(36,.sc .bool)]) .u) .u)))) .u))))) ZbJ.S d=ZbJ.S.F d:=fun _=>by kernel_rfl
theorem ZbJ.sound:Zah Tryz.prog C0 230 ZbJ.S:=sE Za5 ZbJ.ev (Zai ⟨ZcI.sound,ZeY.sound,trivial⟩) Tryz.func230
def ZfR.S:ZaK:=⟨1,[.ptr 0 0,.full 1,.sc (.int .i64),.sc (.list [.int .i64]),.sc (.list [.int .i64])],[.box [.sc .str,.sc (.int .i64),.sc .bool],.arr [.int .u8]],[.int .i64,.list [.int .i64],.list [.int .i64],.str,.int .i64,.bool,.list [.int .u8]],⟨[.str,.int .i64,.bool,.list [.int .u8]],.full 1,[.box [.sc .str,.sc (.int .i64),.sc .bool],.arr [.int .u8]]⟩,
 fun ((sym,backs,codes_,s,at_,bad,text):Int×List Int×List Int×Str×Int×Bool×List Int)=>ZfR sym backs codes_ s at_ bad text⟩
theorem ZfR.ev:∀d,Za4 C0 (hnd (tab [(229,ZeY.S),(237,ZcK.S),(238,Zbb.S),(239,Zbc.S),(247,ZaS.S),(254,ZeC.S)])) Tryz.f248 (.seq .u (.seq .u (.seq .u (.seq (.cm [(2,[0]),(3,[0]),(4,[0])]) (.seq .u (.seq .u (.seq (.cm [(2,[0]),(3,[0]),(4,[0])]) .u))))))) ZfR.S d=ZfR.S.F d:=fun _=>by kernel_rfl
theorem ZfR.sound:Zah Tryz.prog C0 248 ZfR.S:=sE Za5 ZfR.ev (Zai ⟨ZeY.sound,ZcK.sound,Zbb.sound,Zbc.sound,ZaS.sound,ZeC.sound,trivial⟩) Tryz.func248
def ZbX.S:ZaK:=⟨1,[.ptr 0 0,.full 1,.sc (.list [.int .i64]),.sc (.list [.int .i64])],[.box [.sc .str,.sc (.int .i64),.sc .bool],.arr [.int .u8]],[.list [.int .i64],.list [.int .i64],.str,.int .i64,.bool,.list [.int .u8]],⟨[.str,.int .i64,.bool,.list [.int .u8]],.full 1,[.box [.sc .str,.sc (.int .i64),.sc .bool],.arr [.int .u8]]⟩,
 fun ((longs,backs,s,at_,bad,text):List Int×List Int×Str×Int×Bool×List Int)=>ZbX longs backs s at_ bad text⟩
theorem ZbX.ev:∀d,Za4 C0 (hnd (tab [(236,ZaL.S),(247,ZaS.S),(248,ZfR.S)])) Tryz.f231 (.seq .u (.seq .u (.seq .u (.seq (.blk (.loopS ⟨[.list [.int .i64],.list [.int .i64],.str,.int .i64,.bool,.list [.int .u8],.list [.int .i64],.list [.int .i64]],[(0,.ptr 0 0),(1,.full 1),(2,.sc (.list [.int .i64])),(3,.sc (.list [.int .i64])),(9,.full 2),(10,.full 3)],[.box [.sc .str,.sc (.int .i64),.sc .bool],.arr [.int .u8],.arr [.int .i64],.arr [.int .i64]]⟩ (fun ((longs1,backs1,o,o1,o2,text1,a,b):List Int×List Int×Str×Int×Bool×List Int×List Int×List Int)=>100000) 0 ⟨[.str,.int .i64,.bool,.list [.int .u8]],[(0,.ptr 0 0),(1,.full 1)],[.box [.sc .str,.sc (.int .i64),.sc .bool],.arr [.int .u8]]⟩ (.seq (.seq (.reg [.bool] [(25,.sc .bool)]) .u) (.blk (.seq .u (.blk (.seq (.reg [.bool] [(36,.sc .bool)]) .u))))))) .u)))) ZbX.S d=ZbX.S.F d:=fun _=>by kernel_rfl
theorem ZbX.sound:Zah Tryz.prog C0 231 ZbX.S:=sE Za5 ZbX.ev (Zai ⟨ZaL.sound,ZaS.sound,ZfR.sound,trivial⟩) Tryz.func231
def ZdM.S:ZaK:=⟨1,[.ptr 0 0,.full 1,.sc (.int .i64)],[.box [.sc .str,.sc (.int .i64),.sc .bool],.arr [.int .i64]],[.int .i64,.str,.int .i64,.bool,.list [.int .i64]],⟨[.str,.int .i64,.bool,.list [.int .i64]],.full 1,[.box [.sc .str,.sc (.int .i64),.sc .bool],.arr [.int .i64]]⟩,
 fun ((sym,s,at_,bad,out):Int×Str×Int×Bool×List Int)=>ZdM sym s at_ bad out⟩
theorem ZdM.ev:∀d,Za4 C0 (hnd (tab [(229,ZeY.S)])) Tryz.f250 (.seq .u (.seq .u (.seq .u (.join ⟨[.int .i64,.int .i64,.str,.int .i64,.bool,.list [.int .i64]],[(0,.ptr 0 0),(1,.full 1),(7,.sc (.int .i64)),(8,.sc (.int .i64))],[.box [.sc .str,.sc (.int .i64),.sc .bool],.arr [.int .i64]]⟩ (.blk (.seq (.reg [.bool] [(11,.sc .bool)]) .u)) (.seq (.seq .u (.blk (.loop ⟨[.int .i64,.int .i64,.int .i64,.str,.int .i64,.bool,.list [.int .i64]],[(0,.ptr 0 0),(1,.full 1),(7,.sc (.int .i64)),(8,.sc (.int .i64)),(9,.sc (.int .i64))],[.box [.sc .str,.sc (.int .i64),.sc .bool],.arr [.int .i64]]⟩ (fun ((last1,n1,i,o3,o4,o5,out2):Int×Int×Int×Str×Int×Bool×List Int)=>(n1-i).toNat+1) 1 ⟨[.str,.int .i64,.bool,.list [.int .i64]],[(1,.full 1)],[.box [.sc .str,.sc (.int .i64),.sc .bool],.arr [.int .i64]]⟩ (.seq (.seq (.reg [.bool] [(55,.sc .bool)]) .u) .u)))) .u))))) ZdM.S d=ZdM.S.F d:=fun _=>by kernel_rfl
theorem ZdM.sound:Zah Tryz.prog C0 250 ZdM.S:=sE Za5 ZdM.ev (Zai ⟨ZeY.sound,trivial⟩) Tryz.func250
def ZcP.S:ZaK:=⟨1,[.ptr 0 0],[.box [.sc .str,.sc (.int .i64),.sc .bool]],[.str,.int .i64,.bool],⟨[.list [.int .i64],.list [.int .i64],.str,.int .i64,.bool],.tup [.sc (.list [.int .i64]),.sc (.list [.int .i64])],[.box [.sc .str,.sc (.int .i64),.sc .bool]]⟩,
 fun ((s,at_,bad):Str×Int×Bool)=>ZcP s at_ bad⟩
theorem ZcP.ev:∀d,Za4 C0 (hnd (tab [(229,ZeY.S),(236,ZaL.S),(246,Zdp.S),(247,ZaS.S),(249,ZaN.S),(250,ZdM.S)])) Tryz.f232 (.seq .u (.seq .u (.seq .u (.seq .u (.seq .u (.seq (.seq .u (.blk (.loop ⟨[.int .i64,.int .i64,.int .i64,.int .i64,.str,.int .i64,.bool,.list [.int .i64]],[(0,.ptr 0 0),(4,.sc (.int .i64)),(5,.sc (.int .i64)),(6,.sc (.int .i64)),(7,.full 1),(8,.sc (.int .i64))],[.box [.sc .str,.sc (.int .i64),.sc .bool],.arr [.int .i64]]⟩ (fun ((long,back,n,i,o,o1,o2,lens):Int×Int×Int×Int×Str×Int×Bool×List Int)=>(n-i).toNat+1) 0 ⟨[.int .i64,.int .i64,.str,.int .i64,.bool,.list [.int .i64]],[(0,.ptr 0 0),(4,.sc (.int .i64)),(5,.sc (.int .i64)),(7,.full 1)],[.box [.sc .str,.sc (.int .i64),.sc .bool],.arr [.int .i64]]⟩ (.seq .u (.seq (.blk (.cm [(0,[0]),(2,[0]),(3,[0]),(4,[0])])) .u))))) (.seq (.seq (.reg [.bool] [(44,.sc .bool)]) .u) (.seq .u (.seq .u (.seq (.blk (.loop ⟨[.int .i64,.int .i64,.str,.int .i64,.bool,.list [.int .i64],.list [.int .i64],.list [.int .i64]],[(0,.ptr 0 0),(4,.sc (.int .i64)),(5,.sc (.int .i64)),(7,.full 1),(9,.full 2),(10,.full 3)],[.box [.sc .str,.sc (.int .i64),.sc .bool],.arr [.int .i64],.arr [.int .i64],.arr [.int .i64]]⟩ (fun ((long2,back2,o6,o7,o8,lens2,codes_,all):Int×Int×Str×Int×Bool×List Int×List Int×List Int)=>((w64 (long2+back2))-(all.length:Int)).toNat+1) 2 ⟨[.int .i64,.int .i64,.str,.int .i64,.bool,.list [.int .i64]],[(0,.ptr 0 0),(4,.sc (.int .i64)),(5,.sc (.int .i64)),(10,.full 1)],[.box [.sc .str,.sc (.int .i64),.sc .bool],.arr [.int .i64]]⟩ (.seq (.seq (.reg [.bool] [(65,.sc .bool)]) .u) .u))) (.seq (.seq (.reg [.bool] [(98,.sc .bool)]) .u) .u))))))))))) ZcP.S d=ZcP.S.F d:=fun _=>by kernel_rfl
theorem ZcP.sound:Zah Tryz.prog C0 232 ZcP.S:=sE Za5 ZcP.ev (Zai ⟨ZeY.sound,ZaL.sound,Zdp.sound,ZaS.sound,ZaN.sound,ZdM.sound,trivial⟩) Tryz.func232
def ZiF.S:ZaK:=⟨1,[.ptr 0 0,.full 1],[.box [.sc .str,.sc (.int .i64),.sc .bool],.arr [.int .u8]],[.str,.int .i64,.bool,.list [.int .u8]],⟨[.bool,.str,.int .i64,.bool,.list [.int .u8]],.tup [.full 1,.sc .bool],[.box [.sc .str,.sc (.int .i64),.sc .bool],.arr [.int .u8]]⟩,
 fun ((s,at_,bad,text):Str×Int×Bool×List Int)=>ZiF s at_ bad text⟩
theorem ZiF.ev:∀d,Za4 C0 (hnd (tab [(222,ZcQ.S),(223,ZcR.S),(228,ZjF.S),(229,ZeY.S),(230,ZbJ.S),(231,ZbX.S),(232,ZcP.S)])) Tryz.f207 .u ZiF.S d=ZiF.S.F d:=fun _=>by kernel_rfl
theorem ZiF.sound:Zah Tryz.prog C0 207 ZiF.S:=sE Za5 ZiF.ev (Zai ⟨ZcQ.sound,ZcR.sound,ZjF.sound,ZeY.sound,ZbJ.sound,ZbX.sound,ZcP.sound,trivial⟩) Tryz.func207
def Zeq.S:ZaK:=⟨0,[.sc .str],[],[.str],⟨[.str,.int .i64,.bool],.tup [.sc .str,.sc (.int .i64),.sc .bool],[]⟩,
 fun (text:Str)=>Zeq text⟩
theorem Zeq.ev:∀d,Za4 C0 (hnd (tab [(207,ZiF.S),(208,ZcI.S)])) Tryz.f188 (.seq .u (.seq .u (.seq .u (.seq .u (.seq (.blk (.loop ⟨[.bool,.str,.int .i64,.bool,.list [.int .u8]],[(5,.ptr 0 0),(6,.full 1),(7,.sc .bool)],[.box [.sc .str,.sc (.int .i64),.sc .bool],.arr [.int .u8]]⟩ (fun ((last,o,o1,o2,out):Bool×Str×Int×Bool×List Int)=>100000) 0 ⟨[.str,.int .i64,.bool,.list [.int .u8]],[(5,.ptr 0 0),(6,.full 1)],[.box [.sc .str,.sc (.int .i64),.sc .bool],.arr [.int .u8]]⟩ (.seq (.seq (.reg [.bool] [(23,.sc .bool)]) .u) .u))) (.seq .u (.seq (.seq (.reg [.bool] [(46,.sc .bool)]) .u) .u))))))) Zeq.S d=Zeq.S.F d:=fun _=>by kernel_rfl
theorem Zeq.sound:Zah Tryz.prog C0 188 Zeq.S:=sE Za5 Zeq.ev (Zai ⟨ZiF.sound,ZcI.sound,trivial⟩) Tryz.func188
def Zbr.S:ZaK:=⟨0,[.sc .str],[],[.str],⟨[.str,.int .i64,.bool],.tup [.sc .str,.sc (.int .i64),.sc .bool],[]⟩,
 fun (text:Str)=>Zbr text⟩
theorem Zbr.ev:∀d,Za4 C0 (hnd (tab [(188,Zeq.S)])) Tryz.f160 .u Zbr.S d=Zbr.S.F d:=fun _=>by kernel_rfl
theorem Zbr.sound:Zah Tryz.prog C0 160 Zbr.S:=sE Za5 Zbr.ev (Zai ⟨Zeq.sound,trivial⟩) Tryz.func160
def Zgu.S:ZaK:=⟨0,[.sc (.int .i64),.sc (.int .i64)],[],[.int .i64,.int .i64],⟨[.int .i64],.sc (.int .i64),[]⟩,
 fun ((year,month):Int×Int)=>Zgu year month⟩
theorem Zgu.ev:∀d,Za4 C0 (hnd (tab [])) Tryz.f171 (.seq .u (.seq (.seq .u (.blk (.join ⟨[.int .i64,.int .i64,.bool],[(0,.sc (.int .i64)),(5,.sc (.int .i64)),(6,.sc .bool)],[]⟩ .u (.cond .u (.seq .u (.cond (.seq (.seq (.reg [.bool] [(25,.sc .bool)]) .u) .u) .u)))))) .u)) Zgu.S d=Zgu.S.F d:=fun _=>by kernel_rfl
theorem Zgu.sound:Zah Tryz.prog C0 171 Zgu.S:=sE Za5 Zgu.ev (Zai trivial) Tryz.func171
def ZbO.S:ZaK:=⟨0,[.agg [.sc (.int .i64),.sc (.int .i64),.sc (.int .i64),.sc (.int .i64),.sc (.int .i64),.sc (.int .i64)]],[],[.int .i64,.int .i64,.int .i64,.int .i64,.int .i64,.int .i64],⟨[.bool],.sc .bool,[]⟩,
 fun ((y,mo,d,h,mi,sec):Int×Int×Int×Int×Int×Int)=>ZbO y mo d h mi sec⟩
theorem ZbO.ev:∀d,Za4 C0 (hnd (tab [(88,Zhc.S),(171,Zgu.S)])) Tryz.f129 (.seq .u (.seq (.reg [.bool] [(3,.sc .bool)]) (.seq (.reg [.bool] [(2,.sc .bool)]) .u))) ZbO.S d=ZbO.S.F d:=fun _=>by kernel_rfl
theorem ZbO.sound:Zah Tryz.prog C0 129 ZbO.S:=sE Za5 ZbO.ev (Zai ⟨Zhc.sound,Zgu.sound,trivial⟩) Tryz.func129
def ZiX.S:ZaK:=⟨0,[.agg [.sc (.int .i64),.sc (.int .i64),.sc (.int .i64),.sc (.int .i64),.sc (.int .i64),.sc (.int .i64)]],[],[.int .i64,.int .i64,.int .i64,.int .i64,.int .i64,.int .i64],⟨[.int .i64],.sc (.int .i64),[]⟩,
 fun ((y,mo,d,h,mi,sec):Int×Int×Int×Int×Int×Int)=>ZiX y mo d h mi sec⟩
theorem ZiX.ev:∀d,Za4 C0 (hnd (tab [])) Tryz.f185 .u ZiX.S d=ZiX.S.F d:=fun _=>by kernel_rfl
theorem ZiX.sound:Zah Tryz.prog C0 185 ZiX.S:=sE Za5 ZiX.ev (Zai trivial) Tryz.func185
def ZiY.S:ZaK:=⟨0,[.sc (.int .i64)],[],[.int .i64],⟨[.int .i64,.int .i64,.int .i64,.int .i64,.int .i64,.int .i64],.agg [.sc (.int .i64),.sc (.int .i64),.sc (.int .i64),.sc (.int .i64),.sc (.int .i64),.sc (.int .i64)],[]⟩,
 fun (n:Int)=>ZiY n⟩
theorem ZiY.ev:∀d,Za4 C0 (hnd (tab [])) Tryz.f123 .u ZiY.S d=ZiY.S.F d:=fun _=>by kernel_rfl
theorem ZiY.sound:Zah Tryz.prog C0 123 ZiY.S:=sE Za5 ZiY.ev (Zai trivial) Tryz.func123
def Za2.S:ZaK:=⟨0,[.agg [.sc .str,.sc (.int .i64),.sc (.int .i64),.sc (.int .i64),.sc (.int .i64),.sc (.int .i64),.sc (.int .i64),.sc .str]],[],[.str,.int .i64,.int .i64,.int .i64,.int .i64,.int .i64,.int .i64,.str],⟨[.bool],.sc .bool,[]⟩,
 fun ((name,y,mo,d,h,mi,sec,text):Str×Int×Int×Int×Int×Int×Int×Str)=>Za2 name y mo d h mi sec text⟩
theorem Za2.ev:∀d,Za4 C0 (hnd (tab [(51,Zar.S),(129,ZbO.S)])) Tryz.f74 (.seq .u (.seq (.reg [.bool] [(2,.sc .bool)]) .u)) Za2.S d=Za2.S.F d:=fun _=>by kernel_rfl
theorem Za2.sound:Zah Tryz.prog C0 74 Za2.S:=sE Za5 Za2.ev (Zai ⟨Zar.sound,ZbO.sound,trivial⟩) Tryz.func74
def Zav.S:ZaK:=⟨0,[.sc (.int .i64),.sc (.int .i64)],[],[.int .i64,.int .i64],⟨[.str],.sc .str,[]⟩,
 fun ((n,many):Int×Int)=>Zav n many⟩
theorem Zav.ev:∀d,Za4 C0 (hnd (tab [])) Tryz.f133 (.seq .u (.seq .u (.seq (.seq .u (.blk (.loop ⟨[.int .i64,.int .i64,.int .i64,.list [.int .u8]],[(0,.sc (.int .i64)),(1,.sc (.int .i64)),(5,.full 0),(6,.sc (.int .i64))],[.arr [.int .u8]]⟩ (fun ((n1,many1,i,out):Int×Int×Int×List Int)=>(many1-i).toNat+1) 0 ⟨[.list [.int .u8]],[(5,.full 0)],[.arr [.int .u8]]⟩ .u))) .u))) Zav.S d=Zav.S.F d:=fun _=>by kernel_rfl
theorem Zav.sound:Zah Tryz.prog C0 133 Zav.S:=sE Za5 Zav.ev (Zai trivial) Tryz.func133
def Zb2.S:ZaK:=⟨0,[.sc .str,.sc (.int .i64),.sc (.int .i64)],[],[.str,.int .i64,.int .i64],⟨[.int .i64],.sc (.int .i64),[]⟩,
 fun ((s,at_,many):Str×Int×Int)=>Zb2 s at_ many⟩
theorem Zb2.ev:∀d,Za4 C0 (hnd (tab [])) Tryz.f87 (.seq .u (.seq .u (.seq (.seq (.reg [.bool] [(18,.sc .bool)]) .u) (.seq (.seq .u (.blk (.loop ⟨[.str,.int .i64,.int .i64,.int .i64],[(0,.sc .str),(1,.sc (.int .i64)),(7,.sc (.int .i64)),(8,.sc (.int .i64))],[]⟩ (fun ((s1,at_1,n,i):Str×Int×Int×Int)=>(i-0).toNat+2) 0 ⟨[.int .i64],[(7,.sc (.int .i64))],[]⟩ .u))) .u)))) Zb2.S d=Zb2.S.F d:=fun _=>by kernel_rfl
theorem Zb2.sound:Zah Tryz.prog C0 87 Zb2.S:=sE Za5 Zb2.ev (Zai trivial) Tryz.func87
def Zhb.S:ZaK:=⟨0,[.sc .str],[],[.str],⟨[.int .i64,.str],.tup [.sc (.int .i64),.sc .str],[]⟩,
 fun (text:Str)=>Zhb text⟩
theorem Zhb.ev:∀d,Za4 C0 (hnd (tab [(186,Zao.S)])) Tryz.f152 .u Zhb.S d=Zhb.S.F d:=fun _=>by kernel_rfl
theorem Zhb.sound:Zah Tryz.prog C0 152 Zhb.S:=sE Za5 Zhb.ev (Zai ⟨Zao.sound,trivial⟩) Tryz.func152
def ZcF.S:ZaK:=⟨0,[.agg [.sc .str,.sc (.int .i64),.sc (.int .i64),.sc (.int .i64),.sc (.int .i64),.sc (.int .i64),.sc (.int .i64),.sc .str]],[],[.str,.int .i64,.int .i64,.int .i64,.int .i64,.int .i64,.int .i64,.str],⟨[.str],.sc .str,[]⟩,
 fun ((name,y,mo,d,h,mi,sec,text):Str×Int×Int×Int×Int×Int×Int×Str)=>ZcF name y mo d h mi sec text⟩
theorem ZcF.ev:∀d,Za4 C0 (hnd (tab [(125,Zdo.S),(133,Zav.S),(152,Zhb.S),(185,ZiX.S)])) Tryz.f151 .u ZcF.S d=ZcF.S.F d:=fun _=>by kernel_rfl
theorem ZcF.sound:Zah Tryz.prog C0 151 ZcF.S:=sE Za5 ZcF.ev (Zai ⟨Zdo.sound,Zav.sound,Zhb.sound,ZiX.sound,trivial⟩) Tryz.func151
def Zef.S:ZaK:=⟨0,[.agg [.sc .str,.sc (.int .i64),.sc (.int .i64),.sc (.int .i64),.sc (.int .i64),.sc (.int .i64),.sc (.int .i64),.sc .str]],[],[.str,.int .i64,.int .i64,.int .i64,.int .i64,.int .i64,.int .i64,.str],⟨[.str],.sc .str,[]⟩,
 fun ((name,y,mo,d,h,mi,sec,text):Str×Int×Int×Int×Int×Int×Int×Str)=>Zef name y mo d h mi sec text⟩
theorem Zef.ev:∀d,Za4 C0 (hnd (tab [(133,Zav.S),(151,ZcF.S),(152,Zhb.S)])) Tryz.f110 .u Zef.S d=Zef.S.F d:=fun _=>by kernel_rfl
theorem Zef.sound:Zah Tryz.prog C0 110 Zef.S:=sE Za5 Zef.ev (Zai ⟨Zav.sound,ZcF.sound,Zhb.sound,trivial⟩) Tryz.func110
def ZfW.S:ZaK:=⟨0,[.sc (.int .i64),.sc .str],[],[.int .i64,.str],⟨[.str,.bool],.tup [.sc .str,.sc .bool],[]⟩,
 fun ((how,packed):Int×Str)=>ZfW how packed⟩
theorem ZfW.ev:∀d,Za4 C0 (hnd (tab [(160,Zbr.S)])) Tryz.f124 (.seq .u (.seq .u (.seq .u (.seq (.reg [.str,.bool] [(4,.sc .str),(5,.sc .bool)]) .u)))) ZfW.S d=ZfW.S.F d:=fun _=>by kernel_rfl
theorem ZfW.sound:Zah Tryz.prog C0 124 ZfW.S:=sE Za5 ZfW.ev (Zai ⟨Zbr.sound,trivial⟩) Tryz.func124
def Zeu.S:ZaK:=⟨0,[.sc .str],[],[.str],⟨[.str,.int .i64,.int .i64,.int .i64,.int .i64,.int .i64,.int .i64,.str,.int .i64,.bool],.tup [.agg [.sc .str,.sc (.int .i64),.sc (.int .i64),.sc (.int .i64),.sc (.int .i64),.sc (.int .i64),.sc (.int .i64),.sc .str],.sc (.int .i64),.sc .bool],[]⟩,
 fun (text:Str)=>Zeu text⟩
theorem Zeu.ev:∀d,Za4 C0 (hnd (tab [(74,Za2.S),(87,Zb2.S),(123,ZiY.S),(124,ZfW.S),(125,Zdo.S)])) Tryz.f71 (.seq .u (.seq .u (.seq .u (.seq (.reg [.bool] [(7,.sc .bool)]) (.seq (.seq (.reg [.bool] [(51,.sc .bool)]) .u) (.seq .u (.seq .u (.seq .u (.seq (.reg [.bool] [(10,.sc .bool)]) (.seq (.cm [(1,[0]),(2,[0]),(3,[0]),(4,[0]),(9,[0])]) .u)))))))))) Zeu.S d=Zeu.S.F d:=fun _=>by kernel_rfl
theorem Zeu.sound:Zah Tryz.prog C0 71 Zeu.S:=sE Za5 Zeu.ev (Zai ⟨Za2.sound,Zb2.sound,ZiY.sound,ZfW.sound,Zdo.sound,trivial⟩) Tryz.func71
end Ev
end
section
open Go Go.Proofs
set_option maxRecDepth 100000
namespace Ev
set_option maxHeartbeats 1000000
def ZjV.S:ZaK:=⟨0,[.sc (.list [.str,.int .i64,.int .i64,.int .i64,.int .i64,.int .i64,.int .i64,.str]),.sc .str],[],[.list [.str,.int .i64,.int .i64,.int .i64,.int .i64,.int .i64,.int .i64,.str],.str],⟨[.int .i64],.sc (.int .i64),[]⟩,
 fun ((list,name):(List (Str×Int×Int×Int×Int×Int×Int×Str))×Str)=>ZjV list name⟩
theorem ZjV.ev:∀d,Za4 C0 (hnd (tab [])) Tryz.f75 (.seq .u (.seq (.seq .u (.blk (.loopS ⟨[.list [.str,.int .i64,.int .i64,.int .i64,.int .i64,.int .i64,.int .i64,.str],.str,.int .i64],[(0,.sc (.list [.str,.int .i64,.int .i64,.int .i64,.int .i64,.int .i64,.int .i64,.str])),(1,.sc .str),(5,.sc (.int .i64))],[]⟩ (fun ((list1,name1,i):(List (Str×Int×Int×Int×Int×Int×Int×Str))×Str×Int)=>((list1.length:Int)-i).toNat+1) 0 ⟨[],[],[]⟩ .u))) .u)) ZjV.S d=ZjV.S.F d:=fun _=>by kernel_rfl
theorem ZjV.sound:Zah Tryz.prog C0 75 ZjV.S:=sE Za5 ZjV.ev (Zai trivial) Tryz.func75
def Zau.S:ZaK:=⟨0,[.sc (.list [.str,.int .i64,.int .i64,.int .i64,.int .i64,.int .i64,.int .i64,.str])],[],[.list [.str,.int .i64,.int .i64,.int .i64,.int .i64,.int .i64,.int .i64,.str]],⟨[.bool],.sc .bool,[]⟩,
 fun (list:List (Str×Int×Int×Int×Int×Int×Int×Str))=>Zau list⟩
theorem Zau.ev:∀d,Za4 C0 (hnd (tab [(52,Zdf.S),(74,Za2.S),(75,ZjV.S)])) Tryz.f31 (.seq .u (.seq (.seq .u (.blk (.loopS ⟨[.list [.str,.int .i64,.int .i64,.int .i64,.int .i64,.int .i64,.int .i64,.str],.int .i64],[(0,.sc (.list [.str,.int .i64,.int .i64,.int .i64,.int .i64,.int .i64,.int .i64,.str])),(3,.sc (.int .i64))],[]⟩ (fun ((list1,i):(List (Str×Int×Int×Int×Int×Int×Int×Str))×Int)=>((list1.length:Int)-i).toNat+1) 0 ⟨[.list [.str,.int .i64,.int .i64,.int .i64,.int .i64,.int .i64,.int .i64,.str]],[(0,.sc (.list [.str,.int .i64,.int .i64,.int .i64,.int .i64,.int .i64,.int .i64,.str]))],[]⟩ (.seq .u (.seq (.blk (.seq (.seq (.reg [.bool] [(27,.sc .bool)]) .u) (.seq .u (.blk (.loopS ⟨[.list [.str,.int .i64,.int .i64,.int .i64,.int .i64,.int .i64,.int .i64,.str],.int .i64,.int .i64],[(0,.sc (.list [.str,.int .i64,.int .i64,.int .i64,.int .i64,.int .i64,.int .i64,.str])),(3,.sc (.int .i64)),(4,.sc (.int .i64))],[]⟩ (fun ((list2,i1,k):(List (Str×Int×Int×Int×Int×Int×Int×Str))×Int×Int)=>((list2.length:Int)-k).toNat+1) 2 ⟨[.list [.str,.int .i64,.int .i64,.int .i64,.int .i64,.int .i64,.int .i64,.str],.int .i64],[(0,.sc (.list [.str,.int .i64,.int .i64,.int .i64,.int .i64,.int .i64,.int .i64,.str])),(3,.sc (.int .i64))],[]⟩ .u))))) .u))))) .u)) Zau.S d=Zau.S.F d:=fun _=>by kernel_rfl
theorem Zau.sound:Zah Tryz.prog C0 31 Zau.S:=sE Za5 Zau.ev (Zai ⟨Zdf.sound,Za2.sound,ZjV.sound,trivial⟩) Tryz.func31
def ZcJ.S:ZaK:=⟨0,[.agg [.sc .str,.sc (.int .i64),.sc (.int .i64),.sc (.int .i64),.sc (.int .i64),.sc (.int .i64),.sc (.int .i64),.sc .str],.sc (.int .i64)],[],[.str,.int .i64,.int .i64,.int .i64,.int .i64,.int .i64,.int .i64,.str,.int .i64],⟨[.str],.sc .str,[]⟩,
 fun ((name,y,mo,d,h,mi,sec,text,at_):Str×Int×Int×Int×Int×Int×Int×Str×Int)=>ZcJ name y mo d h mi sec text at_⟩
theorem ZcJ.ev:∀d,Za4 C0 (hnd (tab [(133,Zav.S),(151,ZcF.S)])) Tryz.f109 .u ZcJ.S d=ZcJ.S.F d:=fun _=>by kernel_rfl
theorem ZcJ.sound:Zah Tryz.prog C0 109 ZcJ.S:=sE Za5 ZcJ.ev (Zai ⟨Zav.sound,ZcF.sound,trivial⟩) Tryz.func109
def Zha.S:ZaK:=⟨0,[.sc (.int .i64),.sc (.int .i64),.sc (.int .i64)],[],[.int .i64,.int .i64,.int .i64],⟨[.str],.sc .str,[]⟩,
 fun ((many,long,at_):Int×Int×Int)=>Zha many long at_⟩
theorem Zha.ev:∀d,Za4 C0 (hnd (tab [(133,Zav.S)])) Tryz.f91 .u Zha.S d=Zha.S.F d:=fun _=>by kernel_rfl
theorem Zha.sound:Zah Tryz.prog C0 91 Zha.S:=sE Za5 Zha.ev (Zai ⟨Zav.sound,trivial⟩) Tryz.func91
def ZdW.S:ZaK:=⟨0,[.sc (.list [.str,.int .i64,.int .i64,.int .i64,.int .i64,.int .i64,.int .i64,.str])],[],[.list [.str,.int .i64,.int .i64,.int .i64,.int .i64,.int .i64,.int .i64,.str]],⟨[.str],.sc .str,[]⟩,
 fun (list:List (Str×Int×Int×Int×Int×Int×Int×Str))=>ZdW list⟩
theorem ZdW.ev:∀d,Za4 C0 (hnd (tab [(91,Zha.S),(109,ZcJ.S),(110,Zef.S)])) Tryz.f63 (.seq .u (.seq .u (.seq .u (.seq (.seq .u (.blk (.loop ⟨[.list [.str,.int .i64,.int .i64,.int .i64,.int .i64,.int .i64,.int .i64,.str],.str,.str,.int .i64],[(0,.sc (.list [.str,.int .i64,.int .i64,.int .i64,.int .i64,.int .i64,.int .i64,.str])),(3,.sc .str),(4,.sc .str),(5,.sc (.int .i64))],[]⟩ (fun ((list1,out,heads,i):(List (Str×Int×Int×Int×Int×Int×Int×Str))×Str×Str×Int)=>((list1.length:Int)-i).toNat+1) 0 ⟨[.list [.str,.int .i64,.int .i64,.int .i64,.int .i64,.int .i64,.int .i64,.str],.str,.str],[(0,.sc (.list [.str,.int .i64,.int .i64,.int .i64,.int .i64,.int .i64,.int .i64,.str])),(3,.sc .str),(4,.sc .str)],[]⟩ .u))) .u)))) ZdW.S d=ZdW.S.F d:=fun _=>by kernel_rfl
theorem ZdW.sound:Zah Tryz.prog C0 63 ZdW.S:=sE Za5 ZdW.ev (Zai ⟨Zha.sound,ZcJ.sound,Zef.sound,trivial⟩) Tryz.func63
def ZeR.S:ZaK:=⟨0,[.sc .str,.sc (.int .i64)],[],[.str,.int .i64],⟨[.int .i64,.bool,.list [.str,.int .i64,.int .i64,.int .i64,.int .i64,.int .i64,.int .i64,.str]],.tup [.full 0,.sc (.int .i64),.sc .bool],[.arr [.str,.int .i64,.int .i64,.int .i64,.int .i64,.int .i64,.int .i64,.str]]⟩,
 fun ((text,many):Str×Int)=>ZeR text many⟩
theorem ZeR.ev:∀d,Za4 C0 (hnd (tab [(71,Zeu.S)])) Tryz.f89 (.seq .u (.seq .u (.seq .u (.seq (.seq .u (.blk (.loopS ⟨[.str,.int .i64,.int .i64,.int .i64,.list [.str,.int .i64,.int .i64,.int .i64,.int .i64,.int .i64,.int .i64,.str]],[(0,.sc .str),(1,.sc (.int .i64)),(7,.full 0),(8,.sc (.int .i64)),(9,.sc (.int .i64))],[.arr [.str,.int .i64,.int .i64,.int .i64,.int .i64,.int .i64,.int .i64,.str]]⟩ (fun ((text1,many1,at_,i,out):Str×Int×Int×Int×List (Str×Int×Int×Int×Int×Int×Int×Str))=>(many1-i).toNat+1) 0 ⟨[.int .i64,.list [.str,.int .i64,.int .i64,.int .i64,.int .i64,.int .i64,.int .i64,.str]],[(7,.full 0),(8,.sc (.int .i64))],[.arr [.str,.int .i64,.int .i64,.int .i64,.int .i64,.int .i64,.int .i64,.str]]⟩ .u))) .u)))) ZeR.S d=ZeR.S.F d:=fun _=>by kernel_rfl
theorem ZeR.sound:Zah Tryz.prog C0 89 ZeR.S:=sE Za5 ZeR.ev (Zai ⟨Zeu.sound,trivial⟩) Tryz.func89
def ZfV.S:ZaK:=⟨0,[.sc .str,.sc (.int .i64),.sc (.int .i64)],[],[.str,.int .i64,.int .i64],⟨[.int .i64,.bool],.tup [.sc (.int .i64),.sc .bool],[]⟩,
 fun ((text,head,at_):Str×Int×Int)=>ZfV text head at_⟩
theorem ZfV.ev:∀d,Za4 C0 (hnd (tab [(87,Zb2.S),(133,Zav.S)])) Tryz.f90 (.seq .u (.seq .u (.seq .u (.seq (.seq (.reg [.bool] [(36,.sc .bool)]) .u) (.seq (.reg [.bool] [(10,.sc .bool)]) (.seq (.reg [.bool] [(11,.sc .bool)]) (.seq (.reg [.int .i64,.bool] [(6,.sc (.int .i64)),(7,.sc .bool)]) .u))))))) ZfV.S d=ZfV.S.F d:=fun _=>by kernel_rfl
theorem ZfV.sound:Zah Tryz.prog C0 90 ZfV.S:=sE Za5 ZfV.ev (Zai ⟨Zb2.sound,Zav.sound,trivial⟩) Tryz.func90
def ZaW.S:ZaK:=⟨0,[.sc .str],[],[.str],⟨[.bool,.list [.str,.int .i64,.int .i64,.int .i64,.int .i64,.int .i64,.int .i64,.str]],.tup [.full 0,.sc .bool],[.arr [.str,.int .i64,.int .i64,.int .i64,.int .i64,.int .i64,.int .i64,.str]]⟩,
 fun (text:Str)=>ZaW text⟩
theorem ZaW.ev:∀d,Za4 C0 (hnd (tab [(31,Zau.S),(71,Zeu.S),(87,Zb2.S),(88,Zhc.S),(89,ZeR.S),(90,ZfV.S),(91,Zha.S)])) Tryz.f46 (.seq .u (.seq .u (.seq .u (.seq .u (.seq (.seq (.reg [.bool] [(38,.sc .bool)]) .u) (.seq .u (.seq .u (.seq (.seq .u (.blk (.loopS ⟨[.str,.int .i64,.int .i64,.int .i64,.int .i64,.int .i64,.list [.str,.int .i64,.int .i64,.int .i64,.int .i64,.int .i64,.int .i64,.str]],[(0,.sc .str),(4,.sc (.int .i64)),(5,.full 0),(6,.sc (.int .i64)),(8,.sc (.int .i64)),(9,.sc (.int .i64)),(10,.sc (.int .i64))],[.arr [.str,.int .i64,.int .i64,.int .i64,.int .i64,.int .i64,.int .i64,.str]]⟩ (fun ((text1,many,at_,head,own,i,list):Str×Int×Int×Int×Int×Int×List (Str×Int×Int×Int×Int×Int×Int×Str))=>(many-i).toNat+1) 0 ⟨[.str,.int .i64,.int .i64,.int .i64,.list [.str,.int .i64,.int .i64,.int .i64,.int .i64,.int .i64,.int .i64,.str]],[(0,.sc .str),(4,.sc (.int .i64)),(5,.full 0),(6,.sc (.int .i64)),(8,.sc (.int .i64))],[.arr [.str,.int .i64,.int .i64,.int .i64,.int .i64,.int .i64,.int .i64,.str]]⟩ .u))) .u)))))))) ZaW.S d=ZaW.S.F d:=fun _=>by kernel_rfl
theorem ZaW.sound:Zah Tryz.prog C0 46 ZaW.S:=sE Za5 ZaW.ev (Zai ⟨Zau.sound,Zeu.sound,Zb2.sound,Zhc.sound,ZeR.sound,ZfV.sound,Zha.sound,trivial⟩) Tryz.func46
def Zb5.S:ZaK:=⟨0,[.sc (.list [.str,.int .i64,.int .i64,.int .i64,.int .i64,.int .i64,.int .i64,.str]),.sc .str],[],[.list [.str,.int .i64,.int .i64,.int .i64,.int .i64,.int .i64,.int .i64,.str],.str],⟨[.bool],.sc .bool,[]⟩,
 fun ((list,name):(List (Str×Int×Int×Int×Int×Int×Int×Str))×Str)=>Zb5 list name⟩
theorem Zb5.ev:∀d,Za4 C0 (hnd (tab [(52,Zdf.S)])) Tryz.f184 (.seq .u (.seq (.seq .u (.blk (.loopS ⟨[.list [.str,.int .i64,.int .i64,.int .i64,.int .i64,.int .i64,.int .i64,.str],.str,.int .i64],[(0,.sc (.list [.str,.int .i64,.int .i64,.int .i64,.int .i64,.int .i64,.int .i64,.str])),(1,.sc .str),(5,.sc (.int .i64))],[]⟩ (fun ((list1,name1,i):(List (Str×Int×Int×Int×Int×Int×Int×Str))×Str×Int)=>((list1.length:Int)-i).toNat+1) 0 ⟨[],[],[]⟩ (.seq .u (.seq (.blk (.seq (.reg [.bool] [(36,.sc .bool)]) .u)) .u))))) .u)) Zb5.S d=Zb5.S.F d:=fun _=>by kernel_rfl
theorem Zb5.sound:Zah Tryz.prog C0 184 Zb5.S:=sE Za5 Zb5.ev (Zai ⟨Zdf.sound,trivial⟩) Tryz.func184
def ZiW.S:ZaK:=⟨0,[.full 0,.agg [.sc .str,.sc (.int .i64),.sc (.int .i64),.sc (.int .i64),.sc (.int .i64),.sc (.int .i64),.sc (.int .i64),.sc .str]],[.arr [.str,.int .i64,.int .i64,.int .i64,.int .i64,.int .i64,.int .i64,.str]],[.str,.int .i64,.int .i64,.int .i64,.int .i64,.int .i64,.int .i64,.str,.list [.str,.int .i64,.int .i64,.int .i64,.int .i64,.int .i64,.int .i64,.str]],⟨[.int .i64,.list [.str,.int .i64,.int .i64,.int .i64,.int .i64,.int .i64,.int .i64,.str]],.tup [.full 0,.sc (.int .i64)],[.arr [.str,.int .i64,.int .i64,.int .i64,.int .i64,.int .i64,.int .i64,.str]]⟩,
 fun ((name,y,mo,d,h,mi,sec,text,list):Str×Int×Int×Int×Int×Int×Int×Str×List (Str×Int×Int×Int×Int×Int×Int×Str))=>ZiW name y mo d h mi sec text list⟩
theorem ZiW.ev:∀d,Za4 C0 (hnd (tab [(74,Za2.S),(184,Zb5.S)])) Tryz.f149 .u ZiW.S d=ZiW.S.F d:=fun _=>by kernel_rfl
theorem ZiW.sound:Zah Tryz.prog C0 149 ZiW.S:=sE Za5 ZiW.ev (Zai ⟨Za2.sound,Zb5.sound,trivial⟩) Tryz.func149
def ZfC.S:ZaK:=⟨0,[.sc .str],[],[.str],⟨[.bool],.sc .bool,[]⟩,
 fun (text:Str)=>ZfC text⟩
theorem ZfC.ev:∀d,Za4 C0 (hnd (tab [(46,ZaW.S)])) Tryz.f81 .u ZfC.S d=ZfC.S.F d:=fun _=>by kernel_rfl
theorem ZfC.sound:Zah Tryz.prog C0 81 ZfC.S:=sE Za5 ZfC.ev (Zai ⟨ZaW.sound,trivial⟩) Tryz.func81
def Za9.S:ZaK:=⟨0,[.agg [.sc .str,.sc .str]],[],[.str,.str],⟨[.bool],.sc .bool,[]⟩,
 fun ((text,log):Str×Str)=>Za9 text log⟩
theorem Za9.ev:∀d,Za4 C0 (hnd (tab [(81,ZfC.S)])) Tryz.f37 (.seq .u (.seq (.reg [.bool] [(2,.sc .bool)]) .u)) Za9.S d=Za9.S.F d:=fun _=>by kernel_rfl
theorem Za9.sound:Zah Tryz.prog C0 37 Za9.S:=sE Za5 Za9.ev (Zai ⟨ZfC.sound,trivial⟩) Tryz.func37
def ZbP.S:ZaK:=⟨0,[.sc (.list [.str,.int .i64,.int .i64,.int .i64,.int .i64,.int .i64,.int .i64,.str])],[],[.list [.str,.int .i64,.int .i64,.int .i64,.int .i64,.int .i64,.int .i64,.str]],⟨[.str,.str,.bool],.tup [.agg [.sc .str,.sc .str],.sc .bool],[]⟩,
 fun (list:List (Str×Int×Int×Int×Int×Int×Int×Str))=>ZbP list⟩
theorem ZbP.ev:∀d,Za4 C0 (hnd (tab [(31,Zau.S),(63,ZdW.S)])) Tryz.f44 .u ZbP.S d=ZbP.S.F d:=fun _=>by kernel_rfl
theorem ZbP.sound:Zah Tryz.prog C0 44 ZbP.S:=sE Za5 ZbP.ev (Zai ⟨Zau.sound,ZdW.sound,trivial⟩) Tryz.func44
def ZiV.S:ZaK:=⟨0,[.sc .str],[],[.str],⟨[.str],.sc .str,[]⟩,
 fun (text:Str)=>ZiV text⟩
theorem ZiV.ev:∀d,Za4 C0 (hnd (tab [(131,ZeT.S)])) Tryz.f82 .u ZiV.S d=ZiV.S.F d:=fun _=>by kernel_rfl
theorem ZiV.sound:Zah Tryz.prog C0 82 ZiV.S:=sE Za5 ZiV.ev (Zai ⟨ZeT.sound,trivial⟩) Tryz.func82
def ZaG.S:ZaK:=⟨0,[.agg [.sc .str,.sc .str],.sc .str,.sc (.int .i64)],[],[.str,.str,.str,.int .i64],⟨[.str,.str],.agg [.sc .str,.sc .str],[]⟩,
 fun ((dtext,dlog,text,bytes):Str×Str×Str×Int)=>ZaG dtext dlog text bytes⟩
theorem ZaG.ev:∀d,Za4 C0 (hnd (tab [(37,Za9.S),(81,ZfC.S),(82,ZiV.S)])) Tryz.f36 (.seq .u (.seq (.seq (.reg [.bool] [(15,.sc .bool)]) .u) (.seq .u (.join ⟨[.int .i64,.str,.str,.str,.str,.str],[(2,.sc (.int .i64)),(3,.ptr 0 0),(6,.ptr 1 0),(7,.sc .str)],[.box [.sc .str,.sc .str],.box [.sc .str,.sc .str]]⟩ .u .u)))) ZaG.S d=ZaG.S.F d:=fun _=>by kernel_rfl
theorem ZaG.sound:Zah Tryz.prog C0 36 ZaG.S:=sE Za5 ZaG.ev (Zai ⟨Za9.sound,ZfC.sound,ZiV.sound,trivial⟩) Tryz.func36
def ZbA.S:ZaK:=⟨0,[.agg [.sc .str,.sc .str]],[],[.str,.str],⟨[.str,.str,.bool],.tup [.agg [.sc .str,.sc .str],.sc .bool],[]⟩,
 fun ((text,log):Str×Str)=>ZbA text log⟩
theorem ZbA.ev:∀d,Za4 C0 (hnd (tab [(81,ZfC.S),(85,Zdk.S),(86,ZeF.S)])) Tryz.f41 (.seq .u (.seq .u (.seq (.seq (.reg [.bool] [(27,.sc .bool)]) .u) .u))) ZbA.S d=ZbA.S.F d:=fun _=>by kernel_rfl
theorem ZbA.sound:Zah Tryz.prog C0 41 ZbA.S:=sE Za5 ZbA.ev (Zai ⟨ZfC.sound,Zdk.sound,ZeF.sound,trivial⟩) Tryz.func41
def ZdB.S:ZaK:=⟨0,[.sc (.list [.int .u8])],[],[.list [.int .u8]],⟨[.list [.int .u8],.int .i64],.ptr 0 0,[.box [.sc (.list [.int .u8]),.sc (.int .i64)]]⟩,
 fun (code_:List Int)=>ZdB code_⟩
theorem ZdB.ev:∀d,Za4 C0 (hnd (tab [])) Tryz.f48 .u ZdB.S d=ZdB.S.F d:=fun _=>by kernel_rfl
theorem ZdB.sound:Zah Tryz.prog C0 48 ZdB.S:=sE Za5 ZdB.ev (Zai trivial) Tryz.func48
def pick.S:ZaK:=⟨1,[.ptr 0 0,.sc (.int .i64)],[.box [.sc (.list [.int .u8]),.sc (.int .i64)]],[.int .i64,.list [.int .u8],.int .i64],⟨[.int .i64,.list [.int .u8],.int .i64],.sc (.int .i64),[.box [.sc (.list [.int .u8]),.sc (.int .i64)]]⟩,
 fun ((n,b,p):Int×List Int×Int)=>pick n b p⟩
theorem pick.ev:∀d,Za4 C0 (hnd (tab [])) Tryz.f78 (.seq .u (.seq .u (.seq (.seq (.reg [.bool] [(24,.sc .bool)]) .u) .u))) pick.S d=pick.S.F d:=fun _=>by kernel_rfl
theorem pick.sound:Zah Tryz.prog C0 78 pick.S:=sE Za5 pick.ev (Zai trivial) Tryz.func78
def Zh5.S:ZaK:=⟨1,[.ptr 0 0,.sc (.list [.str])],[.box [.sc (.list [.int .u8]),.sc (.int .i64)]],[.list [.str],.list [.int .u8],.int .i64],⟨[.str,.list [.int .u8],.int .i64],.sc .str,[.box [.sc (.list [.int .u8]),.sc (.int .i64)]]⟩,
 fun ((xs,b,p):List Str×List Int×Int)=>Zh5 xs b p⟩
theorem Zh5.ev:∀d,Za4 C0 (hnd (tab [(78,pick.S)])) Tryz.f84 .u Zh5.S d=Zh5.S.F d:=fun _=>by kernel_rfl
theorem Zh5.sound:Zah Tryz.prog C0 84 Zh5.S:=sE Za5 Zh5.ev (Zai ⟨pick.sound,trivial⟩) Tryz.func84
def Zdj.S:ZaK:=⟨0,[.sc .str,.sc (.int .i64)],[],[.str,.int .i64],⟨[.str],.sc .str,[]⟩,
 fun ((s,n):Str×Int)=>Zdj s n⟩
theorem Zdj.ev:∀d,Za4 C0 (hnd (tab [])) Tryz.f135 (.seq .u (.seq .u (.seq (.blk (.loop ⟨[.str,.int .i64,.str],[(0,.sc .str),(1,.sc (.int .i64)),(5,.sc .str)],[]⟩ (fun ((s1,n1,out):Str×Int×Str)=>n1.toNat+1) 0 ⟨[.str],[(5,.sc .str)],[]⟩ .u)) .u))) Zdj.S d=Zdj.S.F d:=fun _=>by kernel_rfl
theorem Zdj.sound:Zah Tryz.prog C0 135 Zdj.S:=sE Za5 Zdj.ev (Zai trivial) Tryz.func135
def ZbL.S:ZaK:=⟨1,[.ptr 0 0],[.box [.sc (.list [.int .u8]),.sc (.int .i64)]],[.list [.int .u8],.int .i64],⟨[.str,.list [.int .u8],.int .i64],.sc .str,[.box [.sc (.list [.int .u8]),.sc (.int .i64)]]⟩,
 fun ((b,p):List Int×Int)=>ZbL b p⟩
theorem ZbL.ev:∀d,Za4 C0 (hnd (tab [(78,pick.S),(84,Zh5.S),(135,Zdj.S)])) Tryz.f122 (.seq .u (.seq (.seq .u (.blk (.seq .u (.cond .u (.seq .u (.cond .u (.seq .u (.cond (.seq .u (.seq (.seq .u (.blk (.loop ⟨[.int .i64,.list [.int .u8],.int .i64,.list [.int .u8]],[(0,.ptr 0 0),(3,.full 1),(4,.sc (.int .i64))],[.box [.sc (.list [.int .u8]),.sc (.int .i64)],.arr [.int .u8]]⟩ (fun ((n,o,o1,out):Int×List Int×Int×List Int)=>(n-0).toNat+1) 1 ⟨[.list [.int .u8],.int .i64,.list [.int .u8]],[(3,.full 1)],[.box [.sc (.list [.int .u8]),.sc (.int .i64)],.arr [.int .u8]]⟩ .u))) .u)) .u)))))))) (.seq .u (.seq (.seq .u (.blk (.loop ⟨[.str,.int .i64,.list [.int .u8],.int .i64],[(0,.ptr 0 0),(5,.sc .str),(6,.sc (.int .i64))],[.box [.sc (.list [.int .u8]),.sc (.int .i64)]]⟩ (fun ((out2,n1,o4,o5):Str×Int×List Int×Int)=>(n1-0).toNat+1) 3 ⟨[.str,.list [.int .u8],.int .i64],[(5,.sc .str)],[.box [.sc (.list [.int .u8]),.sc (.int .i64)]]⟩ .u))) .u)))) ZbL.S d=ZbL.S.F d:=fun _=>by kernel_rfl
theorem ZbL.sound:Zah Tryz.prog C0 122 ZbL.S:=sE Za5 ZbL.ev (Zai ⟨pick.sound,Zh5.sound,Zdj.sound,trivial⟩) Tryz.func122
def Zci.S:ZaK:=⟨1,[.ptr 0 0],[.box [.sc (.list [.int .u8]),.sc (.int .i64)]],[.list [.int .u8],.int .i64],⟨[.str,.list [.int .u8],.int .i64],.sc .str,[.box [.sc (.list [.int .u8]),.sc (.int .i64)]]⟩,
 fun ((b,p):List Int×Int)=>Zci b p⟩
theorem Zci.ev:∀d,Za4 C0 (hnd (tab [(78,pick.S),(122,ZbL.S),(135,Zdj.S)])) Tryz.f94 .u Zci.S d=Zci.S.F d:=fun _=>by kernel_rfl
theorem Zci.sound:Zah Tryz.prog C0 94 Zci.S:=sE Za5 Zci.ev (Zai ⟨pick.sound,ZbL.sound,Zdj.sound,trivial⟩) Tryz.func94
def ZcS.S:ZaK:=⟨1,[.ptr 0 0],[.box [.sc (.list [.int .u8]),.sc (.int .i64)]],[.list [.int .u8],.int .i64],⟨[.str,.list [.int .u8],.int .i64],.sc .str,[.box [.sc (.list [.int .u8]),.sc (.int .i64)]]⟩,
 fun ((b,p):List Int×Int)=>ZcS b p⟩
theorem ZcS.ev:∀d,Za4 C0 (hnd (tab [(84,Zh5.S)])) Tryz.f120 .u ZcS.S d=ZcS.S.F d:=fun _=>by kernel_rfl
theorem ZcS.sound:Zah Tryz.prog C0 120 ZcS.S:=sE Za5 ZcS.ev (Zai ⟨Zh5.sound,trivial⟩) Tryz.func120
def Zcj.S:ZaK:=⟨1,[.ptr 0 0],[.box [.sc (.list [.int .u8]),.sc (.int .i64)]],[.list [.int .u8],.int .i64],⟨[.str,.list [.int .u8],.int .i64],.sc .str,[.box [.sc (.list [.int .u8]),.sc (.int .i64)]]⟩,
 fun ((b,p):List Int×Int)=>Zcj b p⟩
theorem Zcj.ev:∀d,Za4 C0 (hnd (tab [(78,pick.S),(84,Zh5.S),(120,ZcS.S)])) Tryz.f93 .u Zcj.S d=Zcj.S.F d:=fun _=>by kernel_rfl
theorem Zcj.sound:Zah Tryz.prog C0 93 Zcj.S:=sE Za5 Zcj.ev (Zai ⟨pick.sound,Zh5.sound,ZcS.sound,trivial⟩) Tryz.func93
def Zc5.S:ZaK:=⟨0,[.sc (.list [.str,.int .i64,.int .i64,.int .i64,.int .i64,.int .i64,.int .i64,.str]),.sc (.list [.str,.int .i64,.int .i64,.int .i64,.int .i64,.int .i64,.int .i64,.str])],[],[.list [.str,.int .i64,.int .i64,.int .i64,.int .i64,.int .i64,.int .i64,.str],.list [.str,.int .i64,.int .i64,.int .i64,.int .i64,.int .i64,.int .i64,.str]],⟨[.bool],.sc .bool,[]⟩,
 fun ((xs,ys):(List (Str×Int×Int×Int×Int×Int×Int×Str))×List (Str×Int×Int×Int×Int×Int×Int×Str))=>Zc5 xs ys⟩
theorem Zc5.ev:∀d,Za4 C0 (hnd (tab [])) Tryz.f32 (.seq .u (.seq .u (.seq (.seq .u (.blk (.loopS ⟨[.list [.str,.int .i64,.int .i64,.int .i64,.int .i64,.int .i64,.int .i64,.str],.list [.str,.int .i64,.int .i64,.int .i64,.int .i64,.int .i64,.int .i64,.str],.int .i64],[(0,.sc (.list [.str,.int .i64,.int .i64,.int .i64,.int .i64,.int .i64,.int .i64,.str])),(1,.sc (.list [.str,.int .i64,.int .i64,.int .i64,.int .i64,.int .i64,.int .i64,.str])),(5,.sc (.int .i64))],[]⟩ (fun ((a,b,i):(List (Str×Int×Int×Int×Int×Int×Int×Str))×(List (Str×Int×Int×Int×Int×Int×Int×Str))×Int)=>((a.length:Int)-i).toNat+1) 0 ⟨[],[],[]⟩ .u))) .u))) Zc5.S d=Zc5.S.F d:=fun _=>by kernel_rfl
theorem Zc5.sound:Zah Tryz.prog C0 32 Zc5.S:=sE Za5 Zc5.ev (Zai trivial) Tryz.func32
def Zcs.S:ZaK:=⟨0,[.agg [.sc .str,.sc .str],.agg [.sc .str,.sc .str]],[],[.str,.str,.str,.str],⟨[.bool],.sc .bool,[]⟩,
 fun ((text,log,text1,log1):Str×Str×Str×Str)=>Zcs text log text1 log1⟩
theorem Zcs.ev:∀d,Za4 C0 (hnd (tab [])) Tryz.f35 (.seq .u (.seq (.reg [.bool] [(4,.sc .bool)]) .u)) Zcs.S d=Zcs.S.F d:=fun _=>by kernel_rfl
theorem Zcs.sound:Zah Tryz.prog C0 35 Zcs.S:=sE Za5 Zcs.ev (Zai trivial) Tryz.func35
def Ze0.S:ZaK:=⟨1,[.ptr 0 0,.sc (.list [.int .i64])],[.box [.sc (.list [.int .u8]),.sc (.int .i64)]],[.list [.int .i64],.list [.int .u8],.int .i64],⟨[.int .i64,.list [.int .u8],.int .i64],.sc (.int .i64),[.box [.sc (.list [.int .u8]),.sc (.int .i64)]]⟩,
 fun ((xs,b,p):List Int×List Int×Int)=>Ze0 xs b p⟩
theorem Ze0.ev:∀d,Za4 C0 (hnd (tab [(78,pick.S)])) Tryz.f77 .u Ze0.S d=Ze0.S.F d:=fun _=>by kernel_rfl
theorem Ze0.sound:Zah Tryz.prog C0 77 Ze0.S:=sE Za5 Ze0.ev (Zai ⟨pick.sound,trivial⟩) Tryz.func77
def Zei.S:ZaK:=⟨1,[.ptr 0 0,.sc .str],[.box [.sc (.list [.int .u8]),.sc (.int .i64)]],[.str,.list [.int .u8],.int .i64],⟨[.str,.list [.int .u8],.int .i64],.sc .str,[.box [.sc (.list [.int .u8]),.sc (.int .i64)]]⟩,
 fun ((s,b,p):Str×List Int×Int)=>Zei s b p⟩
theorem Zei.ev:∀d,Za4 C0 (hnd (tab [(78,pick.S),(84,Zh5.S)])) Tryz.f68 (.seq .u (.seq .u (.seq .u (.seq (.seq .u (.blk (.seq .u (.cond (.seq (.cm [(0,[0]),(1,[0]),(2,[0])]) .u) .u)))) .u)))) Zei.S d=Zei.S.F d:=fun _=>by kernel_rfl
theorem Zei.sound:Zah Tryz.prog C0 68 Zei.S:=sE Za5 Zei.ev (Zai ⟨pick.sound,Zh5.sound,trivial⟩) Tryz.func68
def ZbZ.S:ZaK:=⟨1,[.ptr 0 0],[.box [.sc (.list [.int .u8]),.sc (.int .i64)]],[.list [.int .u8],.int .i64],⟨[.int .i64,.int .i64,.int .i64,.int .i64,.int .i64,.int .i64,.list [.int .u8],.int .i64],.agg [.sc (.int .i64),.sc (.int .i64),.sc (.int .i64),.sc (.int .i64),.sc (.int .i64),.sc (.int .i64)],[.box [.sc (.list [.int .u8]),.sc (.int .i64)]]⟩,
 fun ((b,p):List Int×Int)=>ZbZ b p⟩
theorem ZbZ.ev:∀d,Za4 C0 (hnd (tab [(77,Ze0.S),(78,pick.S)])) Tryz.f121 .u ZbZ.S d=ZbZ.S.F d:=fun _=>by kernel_rfl
theorem ZbZ.sound:Zah Tryz.prog C0 121 ZbZ.S:=sE Za5 ZbZ.ev (Zai ⟨Ze0.sound,pick.sound,trivial⟩) Tryz.func121
def ZbR.S:ZaK:=⟨1,[.ptr 0 0],[.box [.sc (.list [.int .u8]),.sc (.int .i64)]],[.list [.int .u8],.int .i64],⟨[.int .i64,.int .i64,.int .i64,.int .i64,.int .i64,.int .i64,.list [.int .u8],.int .i64],.agg [.sc (.int .i64),.sc (.int .i64),.sc (.int .i64),.sc (.int .i64),.sc (.int .i64),.sc (.int .i64)],[.box [.sc (.list [.int .u8]),.sc (.int .i64)]]⟩,
 fun ((b,p):List Int×Int)=>ZbR b p⟩
theorem ZbR.ev:∀d,Za4 C0 (hnd (tab [(77,Ze0.S),(78,pick.S),(121,ZbZ.S)])) Tryz.f150 .u ZbR.S d=ZbR.S.F d:=fun _=>by kernel_rfl
theorem ZbR.sound:Zah Tryz.prog C0 150 ZbR.S:=sE Za5 ZbR.ev (Zai ⟨Ze0.sound,pick.sound,ZbZ.sound,trivial⟩) Tryz.func150
def Zch.S:ZaK:=⟨1,[.ptr 0 0],[.box [.sc (.list [.int .u8]),.sc (.int .i64)]],[.list [.int .u8],.int .i64],⟨[.str,.int .i64,.int .i64,.int .i64,.int .i64,.int .i64,.int .i64,.str,.list [.int .u8],.int .i64],.agg [.sc .str,.sc (.int .i64),.sc (.int .i64),.sc (.int .i64),.sc (.int .i64),.sc (.int .i64),.sc (.int .i64),.sc .str],[.box [.sc (.list [.int .u8]),.sc (.int .i64)]]⟩,
 fun ((b,p):List Int×Int)=>Zch b p⟩
theorem Zch.ev:∀d,Za4 C0 (hnd (tab [(120,ZcS.S),(121,ZbZ.S),(122,ZbL.S)])) Tryz.f70 .u Zch.S d=Zch.S.F d:=fun _=>by kernel_rfl
theorem Zch.sound:Zah Tryz.prog C0 70 Zch.S:=sE Za5 Zch.ev (Zai ⟨ZcS.sound,ZbZ.sound,ZbL.sound,trivial⟩) Tryz.func70
def ZbS.S:ZaK:=⟨1,[.ptr 0 0],[.box [.sc (.list [.int .u8]),.sc (.int .i64)]],[.list [.int .u8],.int .i64],⟨[.str,.int .i64,.int .i64,.int .i64,.int .i64,.int .i64,.int .i64,.str,.list [.int .u8],.int .i64],.agg [.sc .str,.sc (.int .i64),.sc (.int .i64),.sc (.int .i64),.sc (.int .i64),.sc (.int .i64),.sc (.int .i64),.sc .str],[.box [.sc (.list [.int .u8]),.sc (.int .i64)]]⟩,
 fun ((b,p):List Int×Int)=>ZbS b p⟩
theorem ZbS.ev:∀d,Za4 C0 (hnd (tab [(70,Zch.S),(78,pick.S),(93,Zcj.S),(94,Zci.S),(150,ZbR.S)])) Tryz.f108 .u ZbS.S d=ZbS.S.F d:=fun _=>by kernel_rfl
theorem ZbS.sound:Zah Tryz.prog C0 108 ZbS.S:=sE Za5 ZbS.ev (Zai ⟨Zch.sound,pick.sound,Zcj.sound,Zci.sound,ZbR.sound,trivial⟩) Tryz.func108
end Ev
end
section
open Go Go.Proofs
set_option maxRecDepth 100000
namespace Ev
set_option maxHeartbeats 1000000
def ZaF.S:ZaK:=⟨1,[.ptr 0 0],[.box [.sc (.list [.int .u8]),.sc (.int .i64)]],[.list [.int .u8],.int .i64],⟨[.list [.int .u8],.int .i64,.list [.str,.int .i64,.int .i64,.int .i64,.int .i64,.int .i64,.int .i64,.str]],.full 1,[.box [.sc (.list [.int .u8]),.sc (.int .i64)],.arr [.str,.int .i64,.int .i64,.int .i64,.int .i64,.int .i64,.int .i64,.str]]⟩,
 fun ((b,p):List Int×Int)=>ZaF b p⟩
theorem ZaF.ev:∀d,Za4 C0 (hnd (tab [(70,Zch.S),(78,pick.S),(121,ZbZ.S),(131,ZeT.S),(149,ZiW.S)])) Tryz.f107 (.seq .u (.seq .u (.seq (.seq .u (.blk (.loop ⟨[.int .i64,.list [.int .u8],.int .i64,.list [.str,.int .i64,.int .i64,.int .i64,.int .i64,.int .i64,.int .i64,.str]],[(0,.ptr 0 0),(3,.full 1),(4,.sc (.int .i64))],[.box [.sc (.list [.int .u8]),.sc (.int .i64)],.arr [.str,.int .i64,.int .i64,.int .i64,.int .i64,.int .i64,.int .i64,.str]]⟩ (fun ((n,o,o1,out):Int×List Int×Int×List (Str×Int×Int×Int×Int×Int×Int×Str))=>(n-0).toNat+1) 0 ⟨[.list [.int .u8],.int .i64,.list [.str,.int .i64,.int .i64,.int .i64,.int .i64,.int .i64,.int .i64,.str]],[(0,.ptr 0 0),(3,.full 1)],[.box [.sc (.list [.int .u8]),.sc (.int .i64)],.arr [.str,.int .i64,.int .i64,.int .i64,.int .i64,.int .i64,.int .i64,.str]]⟩ .u))) (.seq (.seq .u (.cond (.seq .u (.blk (.loop ⟨[.int .i64,.list [.int .u8],.int .i64,.list [.str,.int .i64,.int .i64,.int .i64,.int .i64,.int .i64,.int .i64,.str]],[(0,.ptr 0 0),(3,.full 1),(5,.sc (.int .i64))],[.box [.sc (.list [.int .u8]),.sc (.int .i64)],.arr [.str,.int .i64,.int .i64,.int .i64,.int .i64,.int .i64,.int .i64,.str]]⟩ (fun ((n1,o4,o5,out2):Int×List Int×Int×List (Str×Int×Int×Int×Int×Int×Int×Str))=>(6-n1).toNat+1) 2 ⟨[.list [.int .u8],.int .i64,.list [.str,.int .i64,.int .i64,.int .i64,.int .i64,.int .i64,.int .i64,.str]],[(3,.full 1)],[.box [.sc (.list [.int .u8]),.sc (.int .i64)],.arr [.str,.int .i64,.int .i64,.int .i64,.int .i64,.int .i64,.int .i64,.str]]⟩ .u))) .u)) .u)))) ZaF.S d=ZaF.S.F d:=fun _=>by kernel_rfl
theorem ZaF.sound:Zah Tryz.prog C0 107 ZaF.S:=sE Za5 ZaF.ev (Zai ⟨Zch.sound,pick.sound,ZbZ.sound,ZeT.sound,ZiW.sound,trivial⟩) Tryz.func107
def Zb7.S:ZaK:=⟨1,[.ptr 0 0],[.box [.sc (.list [.int .u8]),.sc (.int .i64)]],[.list [.int .u8],.int .i64],⟨[.list [.int .u8],.int .i64,.list [.str,.int .i64,.int .i64,.int .i64,.int .i64,.int .i64,.int .i64,.str]],.full 1,[.box [.sc (.list [.int .u8]),.sc (.int .i64)],.arr [.str,.int .i64,.int .i64,.int .i64,.int .i64,.int .i64,.int .i64,.str]]⟩,
 fun ((b,p):List Int×Int)=>Zb7 b p⟩
theorem Zb7.ev:∀d,Za4 C0 (hnd (tab [(78,pick.S),(107,ZaF.S),(108,ZbS.S)])) Tryz.f62 .u Zb7.S d=Zb7.S.F d:=fun _=>by kernel_rfl
theorem Zb7.sound:Zah Tryz.prog C0 62 Zb7.S:=sE Za5 Zb7.ev (Zai ⟨pick.sound,ZaF.sound,ZbS.sound,trivial⟩) Tryz.func62
def ZfE.S:ZaK:=⟨1,[.ptr 0 0],[.box [.sc (.list [.int .u8]),.sc (.int .i64)]],[.list [.int .u8],.int .i64],⟨[.str,.list [.int .u8],.int .i64],.sc .str,[.box [.sc (.list [.int .u8]),.sc (.int .i64)]]⟩,
 fun ((b,p):List Int×Int)=>ZfE b p⟩
theorem ZfE.ev:∀d,Za4 C0 (hnd (tab [(63,ZdW.S),(107,ZaF.S)])) Tryz.f76 .u ZfE.S d=ZfE.S.F d:=fun _=>by kernel_rfl
theorem ZfE.sound:Zah Tryz.prog C0 76 ZfE.S:=sE Za5 ZfE.ev (Zai ⟨ZdW.sound,ZaF.sound,trivial⟩) Tryz.func76
def Zb9.S:ZaK:=⟨0,[.sc (.list [.int .u8])],[],[.list [.int .u8]],⟨[.list [.str,.int .i64,.int .i64,.int .i64,.int .i64,.int .i64,.int .i64,.str]],.full 0,[.arr [.str,.int .i64,.int .i64,.int .i64,.int .i64,.int .i64,.int .i64,.str]]⟩,
 fun (code_:List Int)=>Zb9 code_⟩
theorem Zb9.ev:∀d,Za4 C0 (hnd (tab [(48,ZdB.S),(62,Zb7.S)])) Tryz.f42 .u Zb9.S d=Zb9.S.F d:=fun _=>by kernel_rfl
theorem Zb9.sound:Zah Tryz.prog C0 42 Zb9.S:=sE Za5 Zb9.ev (Zai ⟨ZdB.sound,Zb7.sound,trivial⟩) Tryz.func42
def ZaR.S:ZaK:=⟨0,[.sc (.list [.int .u8])],[],[.list [.int .u8]],⟨[.str,.str,.str,.int .i64],.tup [.agg [.sc .str,.sc .str],.sc .str,.sc (.int .i64)],[]⟩,
 fun (code_:List Int)=>ZaR code_⟩
theorem ZaR.ev:∀d,Za4 C0 (hnd (tab [(48,ZdB.S),(76,ZfE.S),(77,Ze0.S),(78,pick.S)])) Tryz.f33 .u ZaR.S d=ZaR.S.F d:=fun _=>by kernel_rfl
theorem ZaR.sound:Zah Tryz.prog C0 33 ZaR.S:=sE Za5 ZaR.ev (Zai ⟨ZdB.sound,ZfE.sound,Ze0.sound,pick.sound,trivial⟩) Tryz.func33
def ZbB.S:ZaK:=⟨0,[.sc (.list [.int .u8])],[],[.list [.int .u8]],⟨[.str,.str],.agg [.sc .str,.sc .str],[]⟩,
 fun (code_:List Int)=>ZbB code_⟩
theorem ZbB.ev:∀d,Za4 C0 (hnd (tab [(33,ZaR.S),(36,ZaG.S),(48,ZdB.S),(68,Zei.S),(78,pick.S),(84,Zh5.S)])) Tryz.f40 .u ZbB.S d=ZbB.S.F d:=fun _=>by kernel_rfl
theorem ZbB.sound:Zah Tryz.prog C0 40 ZbB.S:=sE Za5 ZbB.ev (Zai ⟨ZaR.sound,ZaG.sound,ZdB.sound,Zei.sound,pick.sound,Zh5.sound,trivial⟩) Tryz.func40
def FnDiskOver.S:ZaK:=⟨0,[.sc (.list [.int .u8])],[],[.list [.int .u8]],⟨[.bool],.sc .bool,[]⟩,
 fun (code_:List Int)=>FnDiskOver code_⟩
theorem FnDiskOver.ev:∀d,Za4 C0 (hnd (tab [(33,ZaR.S),(34,Zck.S),(35,Zcs.S),(36,ZaG.S),(37,Za9.S),(38,Zbq.S)])) Tryz.f10 (.seq .u (.seq .u (.seq .u (.seq .u (.seq (.seq (.reg [.bool] [(35,.sc .bool)]) .u) (.seq .u (.seq .u (.seq (.reg [.bool] [(2,.sc .bool)]) .u)))))))) FnDiskOver.S d=FnDiskOver.S.F d:=fun _=>by kernel_rfl
def FnDiskTear.S:ZaK:=⟨0,[.sc (.list [.int .u8])],[],[.list [.int .u8]],⟨[.bool],.sc .bool,[]⟩,
 fun (code_:List Int)=>FnDiskTear code_⟩
theorem FnDiskTear.ev:∀d,Za4 C0 (hnd (tab [(33,ZaR.S),(34,Zck.S),(35,Zcs.S),(36,ZaG.S),(37,Za9.S),(38,Zbq.S),(39,Zc4.S)])) Tryz.f11 (.seq .u (.seq .u (.seq .u (.seq .u (.seq (.seq (.reg [.bool] [(41,.sc .bool)]) (.cond (.seq (.reg [.bool] [(2,.sc .bool)]) .u) .u)) (.seq .u (.seq .u (.seq (.seq .u (.cond (.seq (.reg [.bool] [(2,.sc .bool)]) .u) .u)) (.seq (.reg [.bool] [(2,.sc .bool)]) .u))))))))) FnDiskTear.S d=FnDiskTear.S.F d:=fun _=>by kernel_rfl
def FnDiskRise.S:ZaK:=⟨0,[.sc (.list [.int .u8])],[],[.list [.int .u8]],⟨[.bool],.sc .bool,[]⟩,
 fun (code_:List Int)=>FnDiskRise code_⟩
theorem FnDiskRise.ev:∀d,Za4 C0 (hnd (tab [(35,Zcs.S),(38,Zbq.S),(39,Zc4.S),(40,ZbB.S),(41,ZbA.S)])) Tryz.f12 (.seq .u (.seq .u (.seq .u (.seq .u (.seq .u (.seq (.seq (.reg [.bool] [(37,.sc .bool)]) (.cond (.seq (.reg [.bool] [(2,.sc .bool)]) .u) .u)) (.seq .u (.seq (.reg [.bool] [(2,.sc .bool)]) .u)))))))) FnDiskRise.S d=FnDiskRise.S.F d:=fun _=>by kernel_rfl
def FnDiskNew.S:ZaK:=⟨0,[.sc (.list [.int .u8])],[],[.list [.int .u8]],⟨[.bool],.sc .bool,[]⟩,
 fun (code_:List Int)=>FnDiskNew code_⟩
theorem FnDiskNew.ev:∀d,Za4 C0 (hnd (tab [(29,Zcv.S),(32,Zc5.S),(35,Zcs.S),(38,Zbq.S),(39,Zc4.S),(42,Zb9.S),(43,Zel.S),(44,ZbP.S)])) Tryz.f13 (.seq .u (.seq .u (.seq .u (.seq .u (.seq .u (.seq (.seq (.reg [.bool] [(39,.sc .bool)]) (.cond (.seq (.reg [.bool] [(2,.sc .bool)]) .u) .u)) (.seq .u (.seq .u (.seq (.reg [.bool] [(2,.sc .bool)]) .u))))))))) FnDiskNew.S d=FnDiskNew.S.F d:=fun _=>by kernel_rfl
end Ev
end

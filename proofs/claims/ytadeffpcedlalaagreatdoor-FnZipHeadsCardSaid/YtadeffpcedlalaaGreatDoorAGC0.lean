/- That the evaluator says of each function what it computes, and so that the program does. Conditions: none. -/
import Derived.Test.YtadeffpcedlalaaGreatDoorProg
import Derived.KernelRfl
import Derived.Test.YtadeffpcedlalaaGreatDoorAGP0
set_option linter.unusedVariables false
set_option linter.unusedSimpArgs false
section
open Go Go.Proofs
set_option maxRecDepth 100000
namespace Ev
def Zxp:List (Nat×TI):=[
 (2,⟨.int .i64,1,8,[.int .i64 0],some [.int .i64]⟩),
 (3,⟨.int .i64,1,8,[.int .i64 0],some [.int .i64]⟩),
 (4,⟨.bool,1,1,[.bool false],some [.bool]⟩),
 (5,⟨.int .u8,1,1,[.int .u8 0],some [.int .u8]⟩),
 (6,⟨.int .u8,1,1,[.int .u8 0],some [.int .u8]⟩),
 (7,⟨.struct [(0,1,false),(1,1,false),(2,1,false),(3,1,false)],4,24,[.int .i64 0,.int .i64 0,.bool false,.int .u8 0],some [.int .i64,.int .i64,.bool,.int .u8]⟩),
 (8,⟨.struct [(0,1,false),(1,1,false),(2,1,false),(3,1,false)],4,24,[.int .i64 0,.int .i64 0,.bool false,.int .u8 0],some [.int .i64,.int .i64,.bool,.int .u8]⟩),
 (9,⟨.str,1,16,[.str []],some [.str]⟩),
 (10,⟨.str,1,16,[.str []],some [.str]⟩),
 (11,⟨.str,1,16,[.str []],some [.str]⟩),
 (12,⟨.int .u64,1,8,[.int .u64 0],some [.int .u64]⟩),
 (13,⟨.struct [(0,1,false),(1,1,false)],2,24,[.str [],.int .u64 0],some [.str,.int .u64]⟩),
 (14,⟨.struct [(0,1,false),(1,1,false)],2,24,[.str [],.int .u64 0],some [.str,.int .u64]⟩),
 (15,⟨.ptr 242,1,8,[.nilp],none⟩),
 (16,⟨.ptr 245,1,8,[.nilp],none⟩),
 (17,⟨.ptr 252,1,8,[.nilp],none⟩),
 (18,⟨.struct [(0,1,false)],1,8,[.nilp],none⟩),
 (19,⟨.struct [(0,1,false)],1,8,[.nilp],none⟩),
 (21,⟨.int .i32,1,4,[.int .i32 0],some [.int .i32]⟩),
 (22,⟨.slice 5,1,24,[.nilsl],some [.ints .u8]⟩),
 (23,⟨.slice 28,1,24,[.nilsl],none⟩),
 (27,⟨.struct [(0,1,false),(1,1,false)],2,32,[.str [],.str []],some [.str,.str]⟩),
 (28,⟨.struct [(0,1,false),(1,1,false)],2,32,[.str [],.str []],some [.str,.str]⟩),
 (29,⟨.struct [(0,1,false),(1,1,false),(2,1,false),(3,1,false),(4,1,false),(5,1,false)],6,48,[.int .i64 0,.int .i64 0,.int .i64 0,.int .i64 0,.int .i64 0,.int .i64 0],some [.int .i64,.int .i64,.int .i64,.int .i64,.int .i64,.int .i64]⟩),
 (30,⟨.struct [(0,1,false),(1,1,false),(2,1,false),(3,1,false),(4,1,false),(5,1,false)],6,48,[.int .i64 0,.int .i64 0,.int .i64 0,.int .i64 0,.int .i64 0,.int .i64 0],some [.int .i64,.int .i64,.int .i64,.int .i64,.int .i64,.int .i64]⟩),
 (31,⟨.struct [(0,1,false),(1,6,true),(7,1,false)],8,80,[.str [],.int .i64 0,.int .i64 0,.int .i64 0,.int .i64 0,.int .i64 0,.int .i64 0,.str []],some [.str,.int .i64,.int .i64,.int .i64,.int .i64,.int .i64,.int .i64,.str]⟩),
 (32,⟨.struct [(0,1,false),(1,6,true),(7,1,false)],8,80,[.str [],.int .i64 0,.int .i64 0,.int .i64 0,.int .i64 0,.int .i64 0,.int .i64 0,.str []],some [.str,.int .i64,.int .i64,.int .i64,.int .i64,.int .i64,.int .i64,.str]⟩),
 (33,⟨.slice 32,1,24,[.nilsl],none⟩),
 (51,⟨.struct [(0,1,false),(1,1,false)],2,32,[.str [],.str []],some [.str,.str]⟩),
 (52,⟨.struct [(0,1,false),(1,1,false)],2,32,[.str [],.str []],some [.str,.str]⟩),
 (63,⟨.ptr 105,1,8,[.nilp],none⟩),
 (65,⟨.slice 9,1,24,[.nilsl],none⟩),
 (92,⟨.slice 3,1,24,[.nilsl],some [.ints .i64]⟩),
 (104,⟨.struct [(0,1,false),(1,1,false)],2,32,[.nilsl,.int .i64 0],some [.ints .u8,.int .i64]⟩),
 (105,⟨.struct [(0,1,false),(1,1,false)],2,32,[.nilsl,.int .i64 0],some [.ints .u8,.int .i64]⟩),
 (107,⟨.ptr 109,1,8,[.nilp],none⟩),
 (108,⟨.struct [(0,1,false),(1,1,false)],2,32,[.nilp,.nilsl],none⟩),
 (109,⟨.struct [(0,1,false),(1,1,false)],2,32,[.nilp,.nilsl],none⟩),
 (119,⟨.int .u64,1,8,[.int .u64 0],some [.int .u64]⟩),
 (123,⟨.ptr 125,1,8,[.nilp],none⟩),
 (124,⟨.struct [(0,1,false),(1,1,false),(2,1,false)],3,32,[.str [],.int .i64 0,.bool false],some [.str,.int .i64,.bool]⟩),
 (125,⟨.struct [(0,1,false),(1,1,false),(2,1,false)],3,32,[.str [],.int .i64 0,.bool false],some [.str,.int .i64,.bool]⟩),
 (138,⟨.ptr 5,1,8,[.nilp],none⟩),
 (140,⟨.int .i64,1,8,[.int .i64 0],some [.int .i64]⟩),
 (147,⟨.int .u32,1,4,[.int .u32 0],some [.int .u32]⟩),
 (149,⟨.int .u64,1,8,[.int .u64 0],some [.int .u64]⟩),
 (155,⟨.map 190 3,1,8,[.undef],none⟩),
 (156,⟨.map 190 3,1,8,[.undef],none⟩),
 (159,⟨.struct [(0,1,false),(1,1,false)],2,48,[.nilsl,.nilsl],some [.ints .i64,.ints .i64]⟩),
 (160,⟨.struct [(0,1,false),(1,1,false)],2,48,[.nilsl,.nilsl],some [.ints .i64,.ints .i64]⟩),
 (162,⟨.struct [(0,1,false),(1,1,false),(2,1,false)],3,24,[.int .i64 0,.int .i64 0,.int .i64 0],some [.int .i64,.int .i64,.int .i64]⟩),
 (163,⟨.struct [(0,1,false),(1,1,false),(2,1,false)],3,24,[.int .i64 0,.int .i64 0,.int .i64 0],some [.int .i64,.int .i64,.int .i64]⟩),
 (167,⟨.ptr 169,1,8,[.nilp],none⟩),
 (168,⟨.struct [(0,1,false),(1,1,false)],2,32,[.nilsl,.int .i64 0],some [.ints .u8,.int .i64]⟩),
 (169,⟨.struct [(0,1,false),(1,1,false)],2,32,[.nilsl,.int .i64 0],some [.ints .u8,.int .i64]⟩),
 (172,⟨.slice 163,1,24,[.nilsl],none⟩),
 (182,⟨.int .u64,1,8,[.int .u64 0],some [.int .u64]⟩),
 (186,⟨.ptr 3,1,8,[.nilp],none⟩),
 (189,⟨.struct [(0,1,false),(1,1,false)],2,16,[.int .i64 0,.int .i64 0],some [.int .i64,.int .i64]⟩),
 (190,⟨.struct [(0,1,false),(1,1,false)],2,16,[.int .i64 0,.int .i64 0],some [.int .i64,.int .i64]⟩),
 (200,⟨.ptr 182,1,8,[.nilp],none⟩),
 (203,⟨.ptr 205,1,8,[.nilp],none⟩),
 (204,⟨.struct [(0,1,false),(1,1,false),(2,1,false)],3,32,[.str [],.int .i64 0,.bool false],some [.str,.int .i64,.bool]⟩),
 (205,⟨.struct [(0,1,false),(1,1,false),(2,1,false)],3,32,[.str [],.int .i64 0,.bool false],some [.str,.int .i64,.bool]⟩),
 (208,⟨.slice 210,1,24,[.nilsl],none⟩),
 (209,⟨.struct [(0,1,false),(1,1,false)],2,32,[.int .i64 0,.nilsl],some [.int .i64,.ints .i64]⟩),
 (210,⟨.struct [(0,1,false),(1,1,false)],2,32,[.int .i64 0,.nilsl],some [.int .i64,.ints .i64]⟩),
 (220,⟨.ptr 222,1,8,[.nilp],none⟩),
 (221,⟨.struct [(0,1,false),(1,1,false),(2,1,false)],3,40,[.nilsl,.int .i64 0,.int .i64 0],some [.ints .u8,.int .i64,.int .i64]⟩),
 (222,⟨.struct [(0,1,false),(1,1,false),(2,1,false)],3,40,[.nilsl,.int .i64 0,.int .i64 0],some [.ints .u8,.int .i64,.int .i64]⟩),
 (227,⟨.struct [(0,1,false),(1,1,false)],2,2,[.int .u8 0,.int .u8 0],some [.int .u8,.int .u8]⟩),
 (228,⟨.struct [(0,1,false),(1,1,false)],2,2,[.int .u8 0,.int .u8 0],some [.int .u8,.int .u8]⟩),
 (236,⟨.slice 238,1,24,[.nilsl],none⟩),
 (237,⟨.struct [(0,1,false),(1,1,false),(2,1,false)],3,40,[.int .i64 0,.int .i64 0,.nilsl],some [.int .i64,.int .i64,.ints .i64]⟩),
 (238,⟨.struct [(0,1,false),(1,1,false),(2,1,false)],3,40,[.int .i64 0,.int .i64 0,.nilsl],some [.int .i64,.int .i64,.ints .i64]⟩),
 (241,⟨.struct [(0,1,false),(1,1,false),(2,1,false),(3,1,false)],4,40,[.nilp,.nilp,.nilp,.str []],none⟩),
 (242,⟨.struct [(0,1,false),(1,1,false),(2,1,false),(3,1,false)],4,40,[.nilp,.nilp,.nilp,.str []],none⟩),
 (246,⟨.int .u8,1,1,[.int .u8 0],some [.int .u8]⟩),
 (247,⟨.int .u8,1,1,[.int .u8 0],some [.int .u8]⟩),
 (249,⟨.int .i32,1,4,[.int .i32 0],some [.int .i32]⟩),
 (250,⟨.int .i32,1,4,[.int .i32 0],some [.int .i32]⟩),
 (251,⟨.struct [(0,1,false),(1,1,false),(2,1,false),(3,1,false),(4,1,false),(5,1,false),(6,1,false),(7,1,false),(8,1,false),(9,1,false),(10,1,false)],11,48,[.int .u64 0,.int .u64 0,.int .u32 0,.int .u8 0,.int .u8 0,.int .u8 0,.int .u8 0,.undef,.nilp,.int .i32 0,.int .i32 0],none⟩),
 (252,⟨.struct [(0,1,false),(1,1,false),(2,1,false),(3,1,false),(4,1,false),(5,1,false),(6,1,false),(7,1,false),(8,1,false),(9,1,false),(10,1,false)],11,48,[.int .u64 0,.int .u64 0,.int .u32 0,.int .u8 0,.int .u8 0,.int .u8 0,.int .u8 0,.undef,.nilp,.int .i32 0,.int .i32 0],none⟩)]
theorem Zv5:tisC Tryz.prog Zxp=true:=by kernel_rfl
theorem nm:Tryz.prog.follows .mixedOrders=true:=by kernel_rfl
def eqTab:List (Nat×FT):=[(28,[.str,.str]),(32,[.str,.int .i64,.int .i64,.int .i64,.int .i64,.int .i64,.int .i64,.str]),(190,[.int .i64,.int .i64])]
theorem ZwR:eqsC Tryz.prog eqTab=true:=by kernel_rfl
theorem Ztl:ZuA Tryz.prog Zxp=true:=by kernel_rfl
def Zrt:List (Nat×List AV):=[(0,[.ro [.int .i64] [16,17,18,0,8,7,9,6,10,5,11,4,12,3,13,2,14,1,15]])]
def C0:Ctx:=⟨ZtZ Zxp,Zqm Zrt,eqOf eqTab⟩
theorem Zbe:ZgN Tryz.prog C0:=Zxq rfl Zv5 nm rfl ZwR Ztl
end Ev
end
section
open Go Go.Proofs
set_option maxRecDepth 100000
namespace Ev
set_option maxHeartbeats 1000000
def Zbr.S:ZaR:=⟨0,[.sc (.int .i64),.sc (.int .i64),.sc (.int .i64)],[],[.int .i64,.int .i64,.int .i64],⟨[.bool],.sc .bool,[]⟩,
 fun ((n,low,high):Int×Int×Int)=>Zbr n low high⟩
theorem Zbr.ev:∀d,Za9 C0 (hnd (tab [])) Tryz.f104 (.seq .u (.seq (.reg [.bool] [(6,.sc .bool)]) .u)) Zbr.S d=Zbr.S.F d:=fun _=>by kernel_rfl
theorem Zbr.sound:Zah Tryz.prog C0 104 Zbr.S:=sE Zbe Zbr.ev (Zai trivial) Tryz.func104
def ZcZ.S:ZaR:=⟨0,[.sc .str],[],[.str],⟨[.bool],.sc .bool,[]⟩,
 fun (s:Str)=>ZcZ s⟩
theorem ZcZ.ev:∀d,Za9 C0 (hnd (tab [(104,Zbr.S)])) Tryz.f96 (.seq .u (.seq (.seq .u (.blk (.loopS ⟨[.str,.int .i64,.int .i64],[(0,.sc .str),(6,.sc (.int .i64)),(7,.sc (.int .i64))],[]⟩ (fun ((s1,t,t1):Str×Int×Int)=>(t-t1).toNat+1) 0 ⟨[.str],[(0,.sc .str)],[]⟩ (.seq .u (.seq .u (.seq (.blk (.seq .u (.seq .u (.seq (.reg [.bool] [(38,.sc .bool)]) .u)))) .u)))))) (.seq (.reg [.bool] [(2,.sc .bool)]) .u))) ZcZ.S d=ZcZ.S.F d:=fun _=>by kernel_rfl
theorem ZcZ.sound:Zah Tryz.prog C0 96 ZcZ.S:=sE Zbe ZcZ.ev (Zai ⟨Zbr.sound,trivial⟩) Tryz.func96
def ZgY.S:ZaR:=⟨0,[.sc (.int .i64),.sc (.int .i64),.sc (.int .i64)],[],[.int .i64,.int .i64,.int .i64],⟨[.bool],.sc .bool,[]⟩,
 fun ((n,low,high):Int×Int×Int)=>ZgY n low high⟩
theorem ZgY.ev:∀d,Za9 C0 (hnd (tab [])) Tryz.f88 (.seq .u (.seq (.reg [.bool] [(6,.sc .bool)]) .u)) ZgY.S d=ZgY.S.F d:=fun _=>by kernel_rfl
theorem ZgY.sound:Zah Tryz.prog C0 88 ZgY.S:=sE Zbe ZgY.ev (Zai trivial) Tryz.func88
def Zex.S:ZaR:=⟨0,[.sc .str,.sc (.int .u8),.sc (.int .i64)],[],[.str,.int .u8,.int .i64],⟨[.list [.str]],.full 0,[.arr [.str]]⟩,
 fun ((s,b,most):Str×Int×Int)=>Zex s b most⟩
theorem Zex.ev:∀d,Za9 C0 (hnd (tab [])) Tryz.f85 (.seq .u (.seq .u (.seq .u (.seq (.seq .u (.blk (.loop ⟨[.str,.int .u8,.int .i64,.int .i64,.int .i64,.list [.str]],[(0,.sc .str),(1,.sc (.int .u8)),(2,.sc (.int .i64)),(7,.full 0),(8,.sc (.int .i64)),(9,.sc (.int .i64))],[.arr [.str]]⟩ (fun ((s1,b1,most1,from_,i,out):Str×Int×Int×Int×Int×List Str)=>((s1.length:Int)-i).toNat+1) 0 ⟨[.str,.int .i64,.list [.str]],[(0,.sc .str),(7,.full 0),(8,.sc (.int .i64))],[.arr [.str]]⟩ (.seq (.seq (.reg [.bool] [(20,.sc .bool)]) .u) .u)))) .u)))) Zex.S d=Zex.S.F d:=fun _=>by kernel_rfl
theorem Zex.sound:Zah Tryz.prog C0 85 Zex.S:=sE Zbe Zex.ev (Zai trivial) Tryz.func85
def Zas.S:ZaR:=⟨0,[.sc .str],[],[.str],⟨[.bool],.sc .bool,[]⟩,
 fun (s:Str)=>Zas s⟩
theorem Zas.ev:∀d,Za9 C0 (hnd (tab [(85,Zex.S),(88,ZgY.S)])) Tryz.f51 (.seq .u (.seq .u (.seq (.seq .u (.blk (.loopS ⟨[.int .i64,.list [.str]],[(3,.full 0),(4,.sc (.int .i64))],[.arr [.str]]⟩ (fun ((i,list):Int×List Str)=>((list.length:Int)-i).toNat+1) 0 ⟨[.list [.str]],[(3,.full 0)],[.arr [.str]]⟩ (.seq .u (.seq (.blk (.seq .u (.seq (.seq .u (.blk (.loopS ⟨[.int .i64,.str,.int .i64,.list [.str]],[(3,.full 0),(4,.sc (.int .i64)),(5,.sc .str),(6,.sc (.int .i64))],[.arr [.str]]⟩ (fun ((i1,w,k,list1):Int×Str×Int×List Str)=>((w.length:Int)-k).toNat+1) 2 ⟨[.int .i64,.str,.list [.str]],[(3,.full 0),(4,.sc (.int .i64)),(5,.sc .str)],[.arr [.str]]⟩ (.seq .u (.seq (.blk (.seq (.reg [.bool] [(68,.sc .bool)]) .u)) .u))))) (.seq (.reg [.bool] [(80,.sc .bool)]) .u)))) .u))))) .u))) Zas.S d=Zas.S.F d:=fun _=>by kernel_rfl
theorem Zas.sound:Zah Tryz.prog C0 51 Zas.S:=sE Zbe Zas.ev (Zai ⟨Zex.sound,ZgY.sound,trivial⟩) Tryz.func51
def Zdd.S:ZaR:=⟨0,[.sc .str,.sc .str],[],[.str,.str],⟨[.bool],.sc .bool,[]⟩,
 fun ((a,b):Str×Str)=>Zdd a b⟩
theorem Zdd.ev:∀d,Za9 C0 (hnd (tab [])) Tryz.f52 (.seq .u (.seq (.reg [.bool] [(4,.sc .bool)]) .u)) Zdd.S d=Zdd.S.F d:=fun _=>by kernel_rfl
theorem Zdd.sound:Zah Tryz.prog C0 52 Zdd.S:=sE Zbe Zdd.ev (Zai trivial) Tryz.func52
def Zcz.S:ZaR:=⟨0,[.sc .str,.sc .str],[],[.str,.str],⟨[.bool],.sc .bool,[]⟩,
 fun ((s,p):Str×Str)=>Zcz s p⟩
theorem Zcz.ev:∀d,Za9 C0 (hnd (tab [])) Tryz.f106 (.seq .u (.seq (.reg [.bool] [(4,.sc .bool)]) .u)) Zcz.S d=Zcz.S.F d:=fun _=>by kernel_rfl
theorem Zcz.sound:Zah Tryz.prog C0 106 Zcz.S:=sE Zbe Zcz.ev (Zai trivial) Tryz.func106
def ZcE.S:ZaR:=⟨0,[.sc .str,.sc .str],[],[.str,.str],⟨[.bool],.sc .bool,[]⟩,
 fun ((s,p):Str×Str)=>ZcE s p⟩
theorem ZcE.ev:∀d,Za9 C0 (hnd (tab [(106,Zcz.S)])) Tryz.f61 .u ZcE.S d=ZcE.S.F d:=fun _=>by kernel_rfl
theorem ZcE.sound:Zah Tryz.prog C0 61 ZcE.S:=sE Zbe ZcE.ev (Zai ⟨Zcz.sound,trivial⟩) Tryz.func61
def Zcg.S:ZaR:=ZiE
theorem Zcg.sound:Zah Tryz.prog C0 215 Zcg.S:=ZlK Tryz.func215 (by kernel_rfl) (by kernel_rfl) (by kernel_rfl) (by kernel_rfl)
def ZdC.S:ZaR:=ZiP
theorem ZdC.sound:Zah Tryz.prog C0 202 ZdC.S:=Zmd Tryz.func202 (by kernel_rfl) (by kernel_rfl) (by kernel_rfl) (by kernel_rfl)
def Zcy.S:ZaR:=⟨0,[.sc .str,.sc (.int .u8)],[],[.str,.int .u8],⟨[.int .i64],.sc (.int .i64),[]⟩,
 fun ((s,c):Str×Int)=>Zcy s c⟩
theorem Zcy.ev:∀d,Za9 C0 (hnd (tab [(215,Zcg.S)])) Tryz.f196 .u Zcy.S d=Zcy.S.F d:=fun _=>by kernel_rfl
theorem Zcy.sound:Zah Tryz.prog C0 196 Zcy.S:=sE Zbe Zcy.ev (Zai ⟨Zcg.sound,trivial⟩) Tryz.func196
def Zey.S:ZaR:=⟨0,[.sc .str,.cstr [47]],[],[.str],⟨[.int .i64],.sc (.int .i64),[]⟩,
 fun (s:Str)=>Zey s⟩
theorem Zey.ev:∀d,Za9 C0 (hnd (tab [(196,Zcy.S)])) Tryz.f173 (.seq .u (.seq .u (.seq (.blk (.seq (.reg [.bool] [(16,.sc .bool)]) .u)) .u))) Zey.S d=Zey.S.F d:=fun _=>by kernel_rfl
theorem Zey.sound:Zah Tryz.prog C0 173 Zey.S:=sE Zbe Zey.ev (Zai ⟨Zcy.sound,trivial⟩) Tryz.func173
def ZfH.S:ZaR:=⟨0,[.sc .str,.cstr [47]],[],[.str],⟨[.int .i64],.sc (.int .i64),[]⟩,
 fun (s:Str)=>ZfH s⟩
theorem ZfH.ev:∀d,Za9 C0 (hnd (tab [(173,Zey.S)])) Tryz.f176 .u ZfH.S d=ZfH.S.F d:=fun _=>by kernel_rfl
theorem ZfH.sound:Zah Tryz.prog C0 176 ZfH.S:=sE Zbe ZfH.ev (Zai ⟨Zey.sound,trivial⟩) Tryz.func176
def Zgn.S:ZaR:=⟨0,[.sc .str,.cstr [47]],[],[.str],⟨[.int .i64],.sc (.int .i64),[]⟩,
 fun (s:Str)=>Zgn s⟩
theorem Zgn.ev:∀d,Za9 C0 (hnd (tab [(202,ZdC.S)])) Tryz.f175 .u Zgn.S d=Zgn.S.F d:=fun _=>by kernel_rfl
theorem Zgn.sound:Zah Tryz.prog C0 175 Zgn.S:=sE Zbe Zgn.ev (Zai ⟨ZdC.sound,trivial⟩) Tryz.func175
def Zbd.S:ZaR:=⟨0,[.sc .str,.cstr [47],.cint .i64 0,.cint .i64 (-1)],[],[.str],⟨[.list [.str]],.sc (.list [.str]),[]⟩,
 fun (s:Str)=>Zbd s⟩
theorem Zbd.ev:∀d,Za9 C0 (hnd (tab [(175,Zgn.S),(176,ZfH.S)])) Tryz.f136 (.seq .u (.seq .u (.seq .u (.join ⟨[.str,.int .i64],[(0,.sc .str),(1,.cstr [47]),(2,.cint .i64 0),(3,.sc (.int .i64))],[]⟩ .u (.seq .u (.seq .u (.seq .u (.seq .u (.seq (.blk (.loop ⟨[.str,.int .i64,.int .i64,.list [.str]],[(0,.sc .str),(1,.cstr [47]),(2,.cint .i64 0),(3,.sc (.int .i64)),(9,.full 0),(10,.sc (.int .i64))],[.arr [.str]]⟩ (fun ((s2,n1,i,a):Str×Int×Int×List Str)=>(n1-i).toNat+1) 0 ⟨[.str,.int .i64,.list [.str]],[(0,.sc .str),(9,.full 0),(10,.sc (.int .i64))],[.arr [.str]]⟩ .u)) .u))))))))) Zbd.S d=Zbd.S.F d:=fun _=>by kernel_rfl
theorem Zbd.sound:Zah Tryz.prog C0 136 Zbd.S:=sE Zbe Zbd.ev (Zai ⟨Zgn.sound,ZfH.sound,trivial⟩) Tryz.func136
def Zfy.S:ZaR:=⟨0,[.sc .str,.cstr [47]],[],[.str],⟨[.list [.str]],.sc (.list [.str]),[]⟩,
 fun (s:Str)=>Zfy s⟩
theorem Zfy.ev:∀d,Za9 C0 (hnd (tab [(136,Zbd.S)])) Tryz.f95 .u Zfy.S d=Zfy.S.F d:=fun _=>by kernel_rfl
theorem Zfy.sound:Zah Tryz.prog C0 95 Zfy.S:=sE Zbe Zfy.ev (Zai ⟨Zbd.sound,trivial⟩) Tryz.func95
def Za1.S:ZaR:=⟨0,[.sc .str],[],[.str],⟨[.bool],.sc .bool,[]⟩,
 fun (s:Str)=>Za1 s⟩
theorem Za1.ev:∀d,Za9 C0 (hnd (tab [(95,Zfy.S),(96,ZcZ.S)])) Tryz.f49 (.seq .u (.seq .u (.seq (.seq .u (.blk (.loopS ⟨[.list [.str],.list [.str],.int .i64,.int .i64],[(3,.sc (.list [.str])),(8,.sc (.list [.str])),(9,.sc (.int .i64)),(10,.sc (.int .i64))],[]⟩ (fun ((parts,t,t1,t2):List Str×List Str×Int×Int)=>(t1-t2).toNat+1) 0 ⟨[.list [.str]],[(3,.sc (.list [.str]))],[]⟩ .u))) .u))) Za1.S d=Za1.S.F d:=fun _=>by kernel_rfl
theorem Za1.sound:Zah Tryz.prog C0 49 Za1.S:=sE Zbe Za1.ev (Zai ⟨Zfy.sound,ZcZ.sound,trivial⟩) Tryz.func49
def Zc6.S:ZaR:=⟨0,[.sc (.list [.str])],[],[.list [.str]],⟨[.bool],.sc .bool,[]⟩,
 fun (xs:List Str)=>Zc6 xs⟩
theorem Zc6.ev:∀d,Za9 C0 (hnd (tab [(61,ZcE.S)])) Tryz.f50 (.seq .u (.seq (.seq .u (.blk (.loopS ⟨[.list [.str],.list [.str],.int .i64,.int .i64],[(0,.sc (.list [.str])),(7,.sc (.list [.str])),(8,.sc (.int .i64)),(9,.sc (.int .i64))],[]⟩ (fun ((names,t,t1,t2):List Str×List Str×Int×Int)=>(t1-t2).toNat+1) 0 ⟨[],[],[]⟩ (.seq .u (.seq .u (.seq (.blk (.seq .u (.seq .u (.blk (.loopS ⟨[.list [.str],.str,.list [.str],.int .i64,.int .i64,.list [.str],.int .i64,.int .i64],[(0,.sc (.list [.str])),(4,.sc .str),(7,.sc (.list [.str])),(8,.sc (.int .i64)),(9,.sc (.int .i64)),(16,.sc (.list [.str])),(17,.sc (.int .i64)),(18,.sc (.int .i64))],[]⟩ (fun ((names1,a,t3,t4,t5,t6,t7,t8):List Str×Str×List Str×Int×Int×List Str×Int×Int)=>(t7-t8).toNat+1) 2 ⟨[.list [.str],.list [.str],.int .i64,.int .i64],[(0,.sc (.list [.str])),(7,.sc (.list [.str])),(8,.sc (.int .i64)),(9,.sc (.int .i64))],[]⟩ (.seq .u (.seq .u (.seq (.blk (.seq .u (.seq (.reg [.bool] [(36,.sc .bool)]) .u))) .u)))))))) .u)))))) .u)) Zc6.S d=Zc6.S.F d:=fun _=>by kernel_rfl
theorem Zc6.sound:Zah Tryz.prog C0 50 Zc6.S:=sE Zbe Zc6.ev (Zai ⟨ZcE.sound,trivial⟩) Tryz.func50
def Zd8.S:ZaR:=⟨0,[.agg [.sc (.int .i64),.sc (.int .i64)]],[],[.int .i64,.int .i64],⟨[.bool],.sc .bool,[]⟩,
 fun ((num,bits):Int×Int)=>Zd8 num bits⟩
theorem Zd8.ev:∀d,Za9 C0 (hnd (tab [(104,Zbr.S)])) Tryz.f210 (.seq .u (.seq (.reg [.bool] [(2,.sc .bool)]) .u)) Zd8.S d=Zd8.S.F d:=fun _=>by kernel_rfl
theorem Zd8.sound:Zah Tryz.prog C0 210 Zd8.S:=sE Zbe Zd8.ev (Zai ⟨Zbr.sound,trivial⟩) Tryz.func210
def ZeD.S:ZaR:=⟨1,[.ptr 0 0,.sc (.int .i64),.sc (.int .i64)],[.box [.full 1,.sc (.int .i64)],.arr [.int .u8]],[.int .i64,.int .i64,.int .i64,.list [.int .u8]],⟨[.int .i64,.list [.int .u8]],.tup [],[.box [.full 1,.sc (.int .i64)],.arr [.int .u8]]⟩,
 fun ((num,bits,many,b):Int×Int×Int×List Int)=>ZeD num bits many b⟩
theorem ZeD.ev:∀d,Za9 C0 (hnd (tab [])) Tryz.f162 (.seq .u (.blk (.loop ⟨[.int .i64,.int .i64,.int .i64,.int .i64,.list [.int .u8]],[(0,.ptr 0 0),(1,.sc (.int .i64)),(7,.sc (.int .i64)),(8,.sc (.int .i64))],[.box [.full 1,.sc (.int .i64)],.arr [.int .u8]]⟩ (fun ((num1,t,t1,o,o1):Int×Int×Int×Int×List Int)=>(t-t1).toNat+1) 0 ⟨[.int .i64,.list [.int .u8]],[],[.box [.full 1,.sc (.int .i64)],.arr [.int .u8]]⟩ (.seq .u (.seq .u (.seq (.blk (.seq .u (.join ⟨[.int .i64,.int .i64,.int .i64,.int .i64,.int .i64,.list [.int .u8]],[(0,.ptr 0 0),(1,.sc (.int .i64)),(6,.sc (.int .i64)),(7,.sc (.int .i64)),(8,.sc (.int .i64))],[.box [.full 1,.sc (.int .i64)],.arr [.int .u8]]⟩ .u .u))) .u)))))) ZeD.S d=ZeD.S.F d:=fun _=>by kernel_rfl
theorem ZeD.sound:Zah Tryz.prog C0 162 ZeD.S:=sE Zbe ZeD.ev (Zai trivial) Tryz.func162
def Zi7.S:ZaR:=⟨1,[.ptr 0 0],[.box [.full 1,.sc (.int .i64)],.arr [.int .u8]],[.int .i64,.list [.int .u8]],⟨[.int .i64,.list [.int .u8]],.tup [],[.box [.full 1,.sc (.int .i64)],.arr [.int .u8]]⟩,
 fun ((many,b):Int×List Int)=>Zi7 many b⟩
theorem Zi7.ev:∀d,Za9 C0 (hnd (tab [])) Tryz.f163 .u Zi7.S d=Zi7.S.F d:=fun _=>by kernel_rfl
theorem Zi7.sound:Zah Tryz.prog C0 163 Zi7.S:=sE Zbe Zi7.ev (Zai trivial) Tryz.func163
def Zh2.S:ZaR:=⟨1,[.ptr 0 0],[.box [.sc .str,.sc (.int .i64),.sc .bool]],[.str,.int .i64,.bool],⟨[.int .i64,.str,.int .i64,.bool],.sc (.int .i64),[.box [.sc .str,.sc (.int .i64),.sc .bool]]⟩,
 fun ((s,at_,bad):Str×Int×Bool)=>Zh2 s at_ bad⟩
theorem Zh2.ev:∀d,Za9 C0 (hnd (tab [])) Tryz.f112 .u Zh2.S d=Zh2.S.F d:=fun _=>by kernel_rfl
theorem Zh2.sound:Zah Tryz.prog C0 112 Zh2.S:=sE Zbe Zh2.ev (Zai trivial) Tryz.func112
def ZeG.S:ZaR:=⟨1,[.ptr 0 0,.sc (.int .i64)],[.box [.sc .str,.sc (.int .i64),.sc .bool]],[.int .i64,.str,.int .i64,.bool],⟨[.int .i64,.str,.int .i64,.bool],.sc (.int .i64),[.box [.sc .str,.sc (.int .i64),.sc .bool]]⟩,
 fun ((bits,s,at_,bad):Int×Str×Int×Bool)=>ZeG bits s at_ bad⟩
theorem ZeG.ev:∀d,Za9 C0 (hnd (tab [(112,Zh2.S)])) Tryz.f113 (.seq .u (.seq .u (.seq (.seq .u (.blk (.loop ⟨[.int .i64,.int .i64,.int .i64,.str,.int .i64,.bool],[(0,.ptr 0 0),(5,.sc (.int .i64)),(7,.sc (.int .i64)),(8,.sc (.int .i64))],[.box [.sc .str,.sc (.int .i64),.sc .bool]]⟩ (fun ((n,t,t1,o,o1,o2):Int×Int×Int×Str×Int×Bool)=>(t-t1).toNat+1) 0 ⟨[.int .i64,.str,.int .i64,.bool],[(5,.sc (.int .i64))],[.box [.sc .str,.sc (.int .i64),.sc .bool]]⟩ .u))) .u))) ZeG.S d=ZeG.S.F d:=fun _=>by kernel_rfl
theorem ZeG.sound:Zah Tryz.prog C0 113 ZeG.S:=sE Zbe ZeG.ev (Zai ⟨Zh2.sound,trivial⟩) Tryz.func113
def Zd3.S:ZaR:=⟨1,[.ptr 0 0],[.box [.sc .str,.sc (.int .i64),.sc .bool]],[.str,.int .i64,.bool],⟨[.str,.int .i64,.bool],.tup [],[.box [.sc .str,.sc (.int .i64),.sc .bool]]⟩,
 fun ((s,at_,bad):Str×Int×Bool)=>Zd3 s at_ bad⟩
theorem Zd3.ev:∀d,Za9 C0 (hnd (tab [(112,Zh2.S)])) Tryz.f118 (.blk (.loop ⟨[.str,.int .i64,.bool],[(0,.ptr 0 0)],[.box [.sc .str,.sc (.int .i64),.sc .bool]]⟩ (fun ((o,o1,o2):Str×Int×Bool)=>9) 0 ⟨[.str,.int .i64,.bool],[],[.box [.sc .str,.sc (.int .i64),.sc .bool]]⟩ .u)) Zd3.S d=Zd3.S.F d:=fun _=>by kernel_rfl
theorem Zd3.sound:Zah Tryz.prog C0 118 Zd3.S:=sE Zbe Zd3.ev (Zai ⟨Zh2.sound,trivial⟩) Tryz.func118
def Zbw.S:ZaR:=⟨0,[.sc (.int .i64),.sc (.int .i64)],[],[.int .i64,.int .i64],⟨[.int .i64],.sc (.int .i64),[]⟩,
 fun ((num,bits):Int×Int)=>Zbw num bits⟩
theorem Zbw.ev:∀d,Za9 C0 (hnd (tab [(210,Zd8.S)])) Tryz.f191 (.seq .u (.seq .u (.seq .u (.seq (.seq .u (.blk (.loop ⟨[.int .i64,.int .i64,.int .i64,.int .i64],[(0,.sc (.int .i64)),(5,.sc (.int .i64)),(12,.sc (.int .i64)),(13,.sc (.int .i64))],[]⟩ (fun ((num1,out,t,t1):Int×Int×Int×Int)=>(t-t1).toNat+1) 0 ⟨[.int .i64],[(5,.sc (.int .i64))],[]⟩ .u))) .u)))) Zbw.S d=Zbw.S.F d:=fun _=>by kernel_rfl
theorem Zbw.sound:Zah Tryz.prog C0 191 Zbw.S:=sE Zbe Zbw.ev (Zai ⟨Zd8.sound,trivial⟩) Tryz.func191
def ZaD.S:ZaR:=⟨0,[.sc (.int .u32),.sc .str],[],[.int .u32,.str],⟨[.int .u32],.sc (.int .u32),[]⟩,
 fun ((crc_,text):Int×Str)=>ZaD crc_ text⟩
theorem ZaD.ev:∀d,Za9 C0 (hnd (tab [])) Tryz.f159 (.seq .u (.seq .u (.seq (.seq .u (.blk (.loop ⟨[.int .u32,.str,.int .i64],[(0,.sc (.int .u32)),(1,.sc .str),(5,.sc (.int .i64))],[]⟩ (fun ((crc_1,text1,k):Int×Str×Int)=>((text1.length:Int)-k).toNat+1) 0 ⟨[.int .u32],[(0,.sc (.int .u32))],[]⟩ (.seq .u (.seq (.blk (.seq .u (.seq .u (.blk (.loop ⟨[.int .u32,.str,.int .i64,.int .i64],[(0,.sc (.int .u32)),(1,.sc .str),(5,.sc (.int .i64)),(20,.sc (.int .i64))],[]⟩ (fun ((crc_2,text2,k1,t):Int×Str×Int×Int)=>(8-t).toNat+1) 2 ⟨[.int .u32,.str,.int .i64],[(0,.sc (.int .u32)),(1,.sc .str),(5,.sc (.int .i64))],[]⟩ .u))))) .u))))) .u))) ZaD.S d=ZaD.S.F d:=fun _=>by kernel_rfl
theorem ZaD.sound:Zah Tryz.prog C0 159 ZaD.S:=sE Zbe ZaD.ev (Zai trivial) Tryz.func159
def crc.S:ZaR:=⟨0,[.sc .str],[],[.str],⟨[.int .i64],.sc (.int .i64),[]⟩,
 fun (text:Str)=>crc text⟩
theorem crc.ev:∀d,Za9 C0 (hnd (tab [(159,ZaD.S)])) Tryz.f119 .u crc.S d=crc.S.F d:=fun _=>by kernel_rfl
theorem crc.sound:Zah Tryz.prog C0 119 crc.S:=sE Zbe crc.ev (Zai ⟨ZaD.sound,trivial⟩) Tryz.func119
def Zb6.S:ZaR:=⟨0,[.sc (.list [.int .i64])],[],[.list [.int .i64]],⟨[.bool],.sc .bool,[]⟩,
 fun (lens:List Int)=>Zb6 lens⟩
theorem Zb6.ev:∀d,Za9 C0 (hnd (tab [(104,Zbr.S)])) Tryz.f153 (.seq .u (.seq .u (.seq .u (.seq (.seq .u (.blk (.loopS ⟨[.int .i64,.int .i64,.int .i64,.list [.int .i64],.int .i64,.int .i64],[(3,.sc (.int .i64)),(4,.sc (.int .i64)),(5,.sc (.int .i64)),(11,.sc (.list [.int .i64])),(12,.sc (.int .i64)),(13,.sc (.int .i64))],[]⟩ (fun ((sum,many,last,t,t1,t2):Int×Int×Int×List Int×Int×Int)=>(t1-t2).toNat+1) 0 ⟨[.int .i64,.int .i64,.int .i64],[(3,.sc (.int .i64)),(4,.sc (.int .i64)),(5,.sc (.int .i64))],[]⟩ .u))) (.seq (.reg [.bool] [(2,.sc .bool)]) .u))))) Zb6.S d=Zb6.S.F d:=fun _=>by kernel_rfl
theorem Zb6.sound:Zah Tryz.prog C0 153 Zb6.S:=sE Zbe Zb6.ev (Zai ⟨Zbr.sound,trivial⟩) Tryz.func153
def Zcu.S:ZaR:=⟨0,[.sc (.list [.int .i64])],[],[.list [.int .i64]],⟨[.list [.int .i64]],.full 0,[.arr [.int .i64]]⟩,
 fun (lens:List Int)=>Zcu lens⟩
theorem Zcu.ev:∀d,Za9 C0 (hnd (tab [])) Tryz.f169 (.seq .u (.seq .u (.seq .u (.seq (.seq .u (.blk (.loop ⟨[.list [.int .i64],.int .i64,.int .i64,.list [.int .i64]],[(0,.sc (.list [.int .i64])),(3,.full 0),(4,.sc (.int .i64)),(5,.sc (.int .i64))],[.arr [.int .i64]]⟩ (fun ((lens1,next_,l,out):List Int×Int×Int×List Int)=>(15-l).toNat+2) 0 ⟨[.list [.int .i64]],[(3,.full 0)],[.arr [.int .i64]]⟩ (.seq .u (.seq (.blk (.seq (.seq .u (.blk (.loop ⟨[.list [.int .i64],.int .i64,.int .i64,.list [.int .i64],.int .i64,.int .i64,.list [.int .i64]],[(0,.sc (.list [.int .i64])),(3,.full 0),(4,.sc (.int .i64)),(5,.sc (.int .i64)),(15,.sc (.list [.int .i64])),(16,.sc (.int .i64)),(17,.sc (.int .i64))],[.arr [.int .i64]]⟩ (fun ((lens2,next_1,l1,t,t1,t2,out1):List Int×Int×Int×List Int×Int×Int×List Int)=>(t1-t2).toNat+1) 2 ⟨[.list [.int .i64],.int .i64,.int .i64,.list [.int .i64]],[(0,.sc (.list [.int .i64])),(3,.full 0),(4,.sc (.int .i64)),(5,.sc (.int .i64))],[.arr [.int .i64]]⟩ .u))) .u)) .u))))) .u)))) Zcu.S d=Zcu.S.F d:=fun _=>by kernel_rfl
theorem Zcu.sound:Zah Tryz.prog C0 169 Zcu.S:=sE Zbe Zcu.ev (Zai trivial) Tryz.func169
def Za0.S:ZaR:=⟨0,[.sc (.list [.int .i64,.ints .i64])],[],[.list [.int .i64,.ints .i64]],⟨[.int .i64,.list [.int .i64],.list [.int .i64,.ints .i64]],.tup [.agg [.sc (.int .i64),.sc (.list [.int .i64])],.full 0],[.arr [.int .i64,.ints .i64]]⟩,
 fun (list:List (Int×List Int))=>Za0 list⟩
theorem Za0.ev:∀d,Za9 C0 (hnd (tab [])) Tryz.f209 (.seq .u (.seq .u (.seq (.seq .u (.blk (.loop ⟨[.list [.int .i64,.ints .i64],.int .i64,.list [.int .i64,.ints .i64],.int .i64,.int .i64,.int .i64,.list [.int .i64]],[(0,.sc (.list [.int .i64,.ints .i64])),(2,.ptr 0 0),(4,.sc (.int .i64)),(8,.sc (.list [.int .i64,.ints .i64])),(9,.sc (.int .i64)),(10,.sc (.int .i64))],[.box [.sc (.int .i64),.full 1],.arr [.int .i64]]⟩ (fun ((list1,at_,t,t1,t2,o,o1):(List (Int×List Int))×Int×(List (Int×List Int))×Int×Int×Int×List Int)=>(t1-t2).toNat+1) 0 ⟨[.list [.int .i64,.ints .i64],.int .i64,.int .i64,.list [.int .i64]],[(0,.sc (.list [.int .i64,.ints .i64])),(2,.ptr 0 0),(4,.sc (.int .i64))],[.box [.sc (.int .i64),.full 1],.arr [.int .i64]]⟩ (.seq .u (.seq .u (.seq (.blk (.seq .u (.seq (.reg [.bool] [(46,.sc .bool)]) .u))) .u)))))) .u))) Za0.S d=Za0.S.F d:=fun _=>by kernel_rfl
theorem Za0.sound:Zah Tryz.prog C0 209 Za0.S:=sE Zbe Za0.ev (Zai trivial) Tryz.func209
def Zbg.S:ZaR:=⟨0,[.sc (.list [.int .i64])],[],[.list [.int .i64]],⟨[.list [.int .i64]],.full 0,[.arr [.int .i64]]⟩,
 fun (counts:List Int)=>Zbg counts⟩
theorem Zbg.ev:∀d,Za9 C0 (hnd (tab [(209,Za0.S)])) Tryz.f190 (.seq .u (.seq .u (.seq .u (.seq (.seq .u (.blk (.loop ⟨[.list [.int .i64],.int .i64,.int .i64,.list [.int .i64],.list [.int .i64,.ints .i64]],[(3,.full 0),(4,.full 1),(18,.sc (.list [.int .i64])),(19,.sc (.int .i64)),(20,.sc (.int .i64))],[.arr [.int .i64],.arr [.int .i64,.ints .i64]]⟩ (fun ((t,t1,t2,out,list):List Int×Int×Int×List Int×List (Int×List Int))=>(t1-t2).toNat+1) 0 ⟨[.list [.int .i64],.list [.int .i64,.ints .i64]],[(3,.full 0),(4,.full 1)],[.arr [.int .i64],.arr [.int .i64,.ints .i64]]⟩ .u))) (.seq .u (.seq (.blk (.loop ⟨[.list [.int .i64],.list [.int .i64,.ints .i64]],[(3,.full 0),(4,.full 1)],[.arr [.int .i64],.arr [.int .i64,.ints .i64]]⟩ (fun ((out2,list2):List Int×List (Int×List Int))=>((list2.length:Int)-1).toNat+1) 2 ⟨[.list [.int .i64]],[(3,.full 0)],[.arr [.int .i64]]⟩ (.seq .u (.blk (.seq .u (.seq .u (.seq .u (.seq (.seq .u (.blk (.loop ⟨[.int .i64,.int .i64,.list [.int .i64],.int .i64,.list [.int .i64],.int .i64,.list [.int .i64],.list [.int .i64,.ints .i64],.list [.int .i64]],[(3,.full 0),(7,.ptr 1 0),(9,.ptr 2 0),(10,.full 3),(11,.full 4),(67,.full 4),(68,.sc (.int .i64)),(69,.sc (.int .i64))],[.arr [.int .i64],.box [.sc (.int .i64),.sc (.list [.int .i64])],.box [.sc (.int .i64),.sc (.list [.int .i64])],.arr [.int .i64,.ints .i64],.arr [.int .i64]]⟩ (fun ((t3,t4,out3,o,o1,o2,o3,left,o4):Int×Int×List Int×Int×List Int×Int×List Int×(List (Int×List Int))×List Int)=>(t3-t4).toNat+1) 4 ⟨[.list [.int .i64],.int .i64,.list [.int .i64],.int .i64,.list [.int .i64],.list [.int .i64,.ints .i64],.list [.int .i64]],[(3,.full 0),(7,.ptr 1 0),(9,.ptr 2 0),(10,.full 3),(11,.full 4)],[.arr [.int .i64],.box [.sc (.int .i64),.sc (.list [.int .i64])],.box [.sc (.int .i64),.sc (.list [.int .i64])],.arr [.int .i64,.ints .i64],.arr [.int .i64]]⟩ .u))) .u)))))))) .u)))))) Zbg.S d=Zbg.S.F d:=fun _=>by kernel_rfl
theorem Zbg.sound:Zah Tryz.prog C0 190 Zbg.S:=sE Zbe Zbg.ev (Zai ⟨Za0.sound,trivial⟩) Tryz.func190
def ZaV.S:ZaR:=⟨0,[.sc (.list [.int .i64]),.sc (.int .i64)],[],[.list [.int .i64],.int .i64],⟨[.list [.int .i64]],.full 0,[.arr [.int .i64]]⟩,
 fun ((counts,most):List Int×Int)=>ZaV counts most⟩
theorem ZaV.ev:∀d,Za9 C0 (hnd (tab [(104,Zbr.S),(190,Zbg.S)])) Tryz.f168 (.seq .u (.seq (.seq (.reg [.bool] [(21,.sc .bool)]) .u) (.seq .u (.seq .u (.seq (.seq .u (.blk (.loopS ⟨[.int .i64,.int .i64,.list [.int .i64],.int .i64,.int .i64,.list [.int .i64]],[(1,.sc (.int .i64)),(5,.full 0),(6,.sc (.int .i64)),(24,.sc (.list [.int .i64])),(25,.sc (.int .i64)),(26,.sc (.int .i64))],[.arr [.int .i64]]⟩ (fun ((most1,many,t,t1,t2,now):Int×Int×List Int×Int×Int×List Int)=>(t1-t2).toNat+1) 0 ⟨[.int .i64,.int .i64,.list [.int .i64]],[(1,.sc (.int .i64)),(5,.full 0),(6,.sc (.int .i64))],[.arr [.int .i64]]⟩ .u))) (.seq .u (.blk (.loopS ⟨[.int .i64,.list [.int .i64]],[(1,.sc (.int .i64)),(5,.full 0)],[.arr [.int .i64]]⟩ (fun ((most3,now2):Int×List Int)=>100000) 9999 ⟨[],[],[]⟩ (.blk (.seq .u (.seq .u (.seq (.seq .u (.blk (.loop ⟨[.int .i64,.int .i64,.int .i64,.int .i64,.list [.int .i64],.list [.int .i64]],[(1,.sc (.int .i64)),(5,.full 0),(9,.full 1),(10,.sc (.int .i64)),(52,.full 1),(53,.sc (.int .i64)),(54,.sc (.int .i64))],[.arr [.int .i64],.arr [.int .i64]]⟩ (fun ((most4,long,t3,t4,now3,o):Int×Int×Int×Int×List Int×List Int)=>(t3-t4).toNat+1) 4 ⟨[.int .i64,.int .i64,.list [.int .i64],.list [.int .i64]],[(1,.sc (.int .i64)),(5,.full 0),(9,.full 1),(10,.sc (.int .i64))],[.arr [.int .i64],.arr [.int .i64]]⟩ .u))) (.seq .u (.seq .u (.blk (.loop ⟨[.int .i64,.int .i64,.int .i64,.list [.int .i64]],[(1,.sc (.int .i64)),(5,.full 0),(67,.sc (.int .i64)),(68,.sc (.int .i64))],[.arr [.int .i64]]⟩ (fun ((most6,t5,t6,now5):Int×Int×Int×List Int)=>(t5-t6).toNat+1) 6 ⟨[.int .i64,.list [.int .i64]],[(1,.sc (.int .i64)),(5,.full 0)],[.arr [.int .i64]]⟩ .u)))))))))))))))) ZaV.S d=ZaV.S.F d:=fun _=>by kernel_rfl
theorem ZaV.sound:Zah Tryz.prog C0 168 ZaV.S:=sE Zbe ZaV.ev (Zai ⟨Zbr.sound,Zbg.sound,trivial⟩) Tryz.func168
def Zb8.S:ZaR:=⟨0,[.sc (.list [.int .i64])],[],[.list [.int .i64]],⟨[.map [.int .i64,.int .i64] [.int .i64]],.map 0,[.map [.int .i64,.int .i64] [.int .i64]]⟩,
 fun (lens:List Int)=>Zb8 lens⟩
theorem Zb8.ev:∀d,Za9 C0 (hnd (tab [(169,Zcu.S)])) Tryz.f154 (.seq .u (.seq .u (.seq (.seq .u (.blk (.loop ⟨[.list [.int .i64],.int .i64,.int .i64,.map [.int .i64,.int .i64] [.int .i64],.list [.int .i64]],[(0,.sc (.list [.int .i64])),(3,.map 0),(8,.full 1),(9,.sc (.int .i64)),(10,.sc (.int .i64))],[.map [.int .i64,.int .i64] [.int .i64],.arr [.int .i64]]⟩ (fun ((lens1,t,t1,o,o1):List Int×Int×Int×(List ((Int×Int)×Int))×List Int)=>(t-t1).toNat+1) 0 ⟨[.map [.int .i64,.int .i64] [.int .i64]],[(3,.map 0)],[.map [.int .i64,.int .i64] [.int .i64]]⟩ .u))) .u))) Zb8.S d=Zb8.S.F d:=fun _=>by kernel_rfl
theorem Zb8.sound:Zah Tryz.prog C0 154 Zb8.S:=sE Zbe Zb8.ev (Zai ⟨Zcu.sound,trivial⟩) Tryz.func154
end Ev
end
section
open Go Go.Proofs
set_option maxRecDepth 100000
namespace Ev
set_option maxHeartbeats 1000000
def Zbh.S:ZaR:=⟨2,[.ptr 0 0,.map 1],[.box [.sc .str,.sc (.int .i64),.sc .bool],.map [.int .i64,.int .i64] [.int .i64]],[.str,.int .i64,.bool,.map [.int .i64,.int .i64] [.int .i64]],⟨[.int .i64,.str,.int .i64,.bool,.map [.int .i64,.int .i64] [.int .i64]],.sc (.int .i64),[.box [.sc .str,.sc (.int .i64),.sc .bool],.map [.int .i64,.int .i64] [.int .i64]]⟩,
 fun ((s,at_,bad,book):Str×Int×Bool×List ((Int×Int)×Int))=>Zbh s at_ bad book⟩
theorem Zbh.ev:∀d,Za9 C0 (hnd (tab [(112,Zh2.S)])) Tryz.f155 (.seq .u (.seq .u (.seq (.seq .u (.blk (.loopS ⟨[.int .i64,.int .i64,.str,.int .i64,.bool,.map [.int .i64,.int .i64] [.int .i64]],[(0,.ptr 0 0),(1,.map 1),(5,.sc (.int .i64)),(6,.sc (.int .i64))],[.box [.sc .str,.sc (.int .i64),.sc .bool],.map [.int .i64,.int .i64] [.int .i64]]⟩ (fun ((code_,l,o,o1,o2,o3):Int×Int×Str×Int×Bool×List ((Int×Int)×Int))=>(15-l).toNat+2) 0 ⟨[.str,.int .i64,.bool,.map [.int .i64,.int .i64] [.int .i64]],[(0,.ptr 0 0)],[.box [.sc .str,.sc (.int .i64),.sc .bool],.map [.int .i64,.int .i64] [.int .i64]]⟩ (.seq .u (.seq (.blk (.seq .u (.seq .u (.seq (.reg [.bool] [(33,.sc .bool)]) .u)))) .u))))) .u))) Zbh.S d=Zbh.S.F d:=fun _=>by kernel_rfl
theorem Zbh.sound:Zah Tryz.prog C0 155 Zbh.S:=sE Zbe Zbh.ev (Zai ⟨Zh2.sound,trivial⟩) Tryz.func155
def add.S:ZaR:=⟨0,[.full 0,.agg [.sc (.int .i64),.sc (.int .i64),.sc (.int .i64)]],[.arr [.int .u8]],[.int .i64,.int .i64,.int .i64,.list [.int .u8]],⟨[.bool,.list [.int .u8]],.tup [.full 0,.sc .bool],[.arr [.int .u8]]⟩,
 fun ((byte,long,back,out):Int×Int×Int×List Int)=>add byte long back out⟩
theorem add.ev:∀d,Za9 C0 (hnd (tab [(104,Zbr.S)])) Tryz.f158 (.seq .u (.seq (.seq .u (.cond (.seq (.seq (.reg [.bool] [(17,.sc .bool)]) .u) .u) .u)) (.seq (.seq (.reg [.bool] [(41,.sc .bool)]) .u) (.seq (.seq .u (.blk (.loop ⟨[.int .i64,.int .i64,.list [.int .u8],.int .i64,.int .i64,.int .i64],[(0,.full 0),(3,.ptr 1 0),(43,.sc (.int .i64)),(44,.sc (.int .i64))],[.arr [.int .u8],.box [.sc (.int .i64),.sc (.int .i64),.sc (.int .i64)]]⟩ (fun ((t,t1,out1,o,o1,o2):Int×Int×List Int×Int×Int×Int)=>(t-t1).toNat+1) 0 ⟨[.list [.int .u8]],[(0,.full 0)],[.arr [.int .u8]]⟩ .u))) .u)))) add.S d=add.S.F d:=fun _=>by kernel_rfl
theorem add.sound:Zah Tryz.prog C0 158 add.S:=sE Zbe add.ev (Zai ⟨Zbr.sound,trivial⟩) Tryz.func158
def Zaq.S:ZaR:=⟨0,[.sc .str],[],[.str],⟨[.list [.int .i64,.int .i64,.int .i64]],.full 0,[.arr [.int .i64,.int .i64,.int .i64]]⟩,
 fun (text:Str)=>Zaq text⟩
theorem Zaq.ev:∀d,Za9 C0 (hnd (tab [])) Tryz.f165 (.seq .u (.seq .u (.seq .u (.seq (.seq .u (.blk (.loop ⟨[.str,.int .i64,.list [.int .i64,.int .i64,.int .i64]],[(0,.sc .str),(3,.full 0),(4,.sc (.int .i64))],[.arr [.int .i64,.int .i64,.int .i64]]⟩ (fun ((text1,at_,out):Str×Int×List (Int×Int×Int))=>((text1.length:Int)-at_).toNat+1) 0 ⟨[.list [.int .i64,.int .i64,.int .i64]],[(3,.full 0)],[.arr [.int .i64,.int .i64,.int .i64]]⟩ (.seq .u (.blk (.seq .u (.seq (.seq .u (.blk (.loop ⟨[.str,.int .i64,.int .i64,.list [.int .i64,.int .i64,.int .i64],.int .i64,.int .i64,.int .i64],[(0,.sc .str),(3,.full 0),(4,.sc (.int .i64)),(5,.ptr 1 0),(6,.sc (.int .i64))],[.arr [.int .i64,.int .i64,.int .i64],.box [.sc (.int .i64),.sc (.int .i64),.sc (.int .i64)]]⟩ (fun ((text2,at_1,back,out1,o,o1,o2):Str×Int×Int×(List (Int×Int×Int))×Int×Int×Int)=>((ZoV 250 at_1)-back).toNat+2) 2 ⟨[.str,.int .i64,.list [.int .i64,.int .i64,.int .i64],.int .i64,.int .i64,.int .i64],[(0,.sc .str),(3,.full 0),(4,.sc (.int .i64)),(5,.ptr 1 0)],[.arr [.int .i64,.int .i64,.int .i64],.box [.sc (.int .i64),.sc (.int .i64),.sc (.int .i64)]]⟩ (.seq .u (.seq (.blk (.seq .u (.seq (.blk (.loop ⟨[.str,.int .i64,.int .i64,.int .i64,.list [.int .i64,.int .i64,.int .i64],.int .i64,.int .i64,.int .i64],[(0,.sc .str),(3,.full 0),(4,.sc (.int .i64)),(5,.ptr 1 0),(6,.sc (.int .i64)),(7,.sc (.int .i64))],[.arr [.int .i64,.int .i64,.int .i64],.box [.sc (.int .i64),.sc (.int .i64),.sc (.int .i64)]]⟩ (fun ((text3,at_2,back1,n,out2,o3,o4,o5):Str×Int×Int×Int×(List (Int×Int×Int))×Int×Int×Int)=>(60-n).toNat+1) 4 ⟨[.str,.int .i64,.int .i64,.int .i64,.list [.int .i64,.int .i64,.int .i64],.int .i64,.int .i64,.int .i64],[(0,.sc .str),(3,.full 0),(4,.sc (.int .i64)),(5,.ptr 1 0),(6,.sc (.int .i64)),(7,.sc (.int .i64))],[.arr [.int .i64,.int .i64,.int .i64],.box [.sc (.int .i64),.sc (.int .i64),.sc (.int .i64)]]⟩ (.seq (.seq (.reg [.bool] [(52,.sc .bool)]) .u) .u))) (.seq (.reg [.bool] [(62,.sc .bool)]) .u)))) .u))))) .u))))))) .u)))) Zaq.S d=Zaq.S.F d:=fun _=>by kernel_rfl
theorem Zaq.sound:Zah Tryz.prog C0 165 Zaq.S:=sE Zbe Zaq.ev (Zai trivial) Tryz.func165
def Zcj.S:ZaR:=⟨0,[.sc (.int .i64),.sc (.int .i64),.sc (.int .i64),.sc (.int .i64)],[],[.int .i64,.int .i64,.int .i64,.int .i64],⟨[.list [.int .i64],.list [.int .i64]],.agg [.sc (.list [.int .i64]),.sc (.list [.int .i64])],[]⟩,
 fun ((from_,many,plain,each):Int×Int×Int×Int)=>Zcj from_ many plain each⟩
theorem Zcj.ev:∀d,Za9 C0 (hnd (tab [])) Tryz.f187 (.seq .u (.seq .u (.seq (.seq .u (.blk (.loop ⟨[.int .i64,.int .i64,.int .i64,.int .i64,.int .i64,.list [.int .i64],.list [.int .i64],.list [.int .i64],.list [.int .i64]],[(0,.sc (.int .i64)),(2,.sc (.int .i64)),(3,.sc (.int .i64)),(8,.ptr 0 0),(9,.ptr 1 0),(13,.sc (.int .i64)),(14,.sc (.int .i64))],[.box [.full 2,.full 3],.box [.full 4,.full 5],.arr [.int .i64],.arr [.int .i64],.arr [.int .i64],.arr [.int .i64]]⟩ (fun ((from_1,plain1,each1,t,t1,o,o1,o2,o3):Int×Int×Int×Int×Int×List Int×List Int×List Int×List Int)=>(t-t1).toNat+1) 0 ⟨[.list [.int .i64],.list [.int .i64],.list [.int .i64],.list [.int .i64]],[(8,.ptr 0 0),(9,.ptr 1 0)],[.box [.full 2,.full 3],.box [.full 4,.full 5],.arr [.int .i64],.arr [.int .i64],.arr [.int .i64],.arr [.int .i64]]⟩ (.seq .u (.seq .u (.seq (.blk (.seq .u (.seq .u (.join ⟨[.int .i64,.int .i64,.int .i64,.int .i64,.int .i64,.int .i64,.list [.int .i64],.list [.int .i64],.list [.int .i64],.list [.int .i64]],[(0,.sc (.int .i64)),(2,.sc (.int .i64)),(3,.sc (.int .i64)),(8,.ptr 0 0),(9,.ptr 1 0),(11,.sc (.int .i64)),(13,.sc (.int .i64)),(14,.sc (.int .i64))],[.box [.full 2,.full 3],.box [.full 4,.full 5],.arr [.int .i64],.arr [.int .i64],.arr [.int .i64],.arr [.int .i64]]⟩ .u .u)))) .u)))))) .u))) Zcj.S d=Zcj.S.F d:=fun _=>by kernel_rfl
theorem Zcj.sound:Zah Tryz.prog C0 187 Zcj.S:=sE Zbe Zcj.ev (Zai trivial) Tryz.func187
def ZbU.S:ZaR:=⟨0,[],[],[],⟨[.list [.int .i64],.list [.int .i64]],.agg [.sc (.list [.int .i64]),.sc (.list [.int .i64])],[]⟩,
 fun (_:Unit)=>ZbU⟩
theorem ZbU.ev:∀d,Za9 C0 (hnd (tab [(187,Zcj.S)])) Tryz.f156 .u ZbU.S d=ZbU.S.F d:=fun _=>by kernel_rfl
theorem ZbU.sound:Zah Tryz.prog C0 156 ZbU.S:=sE Zbe ZbU.ev (Zai ⟨Zcj.sound,trivial⟩) Tryz.func156
def Zb0.S:ZaR:=⟨0,[],[],[],⟨[.list [.int .i64],.list [.int .i64]],.agg [.sc (.list [.int .i64]),.sc (.list [.int .i64])],[]⟩,
 fun (_:Unit)=>Zb0⟩
theorem Zb0.ev:∀d,Za9 C0 (hnd (tab [(187,Zcj.S)])) Tryz.f157 .u Zb0.S d=Zb0.S.F d:=fun _=>by kernel_rfl
theorem Zb0.sound:Zah Tryz.prog C0 157 Zb0.S:=sE Zbe Zb0.ev (Zai ⟨Zcj.sound,trivial⟩) Tryz.func157
def Zcf.S:ZaR:=⟨0,[.agg [.sc (.list [.int .i64]),.sc (.list [.int .i64])],.sc (.int .i64)],[],[.list [.int .i64],.list [.int .i64],.int .i64],⟨[.int .i64],.sc (.int .i64),[]⟩,
 fun ((first,bits,n):List Int×List Int×Int)=>Zcf first bits n⟩
theorem Zcf.ev:∀d,Za9 C0 (hnd (tab [])) Tryz.f166 (.seq .u (.seq .u (.seq (.blk (.loop ⟨[.int .i64,.int .i64,.list [.int .i64],.list [.int .i64]],[(1,.sc (.int .i64)),(2,.ptr 0 0),(5,.sc (.int .i64))],[.box [.sc (.list [.int .i64]),.sc (.list [.int .i64])]]⟩ (fun ((n1,k,o,o1):Int×Int×List Int×List Int)=>k.toNat+1) 0 ⟨[.int .i64],[(5,.sc (.int .i64))],[]⟩ .u)) .u))) Zcf.S d=Zcf.S.F d:=fun _=>by kernel_rfl
theorem Zcf.sound:Zah Tryz.prog C0 166 Zcf.S:=sE Zbe Zcf.ev (Zai trivial) Tryz.func166
def Zbj.S:ZaR:=⟨0,[],[],[],⟨[.list [.int .i64],.list [.int .i64]],.tup [.full 0,.full 1],[.arr [.int .i64],.arr [.int .i64]]⟩,
 fun (_:Unit)=>Zbj⟩
theorem Zbj.ev:∀d,Za9 C0 (hnd (tab [])) Tryz.f115 (.seq .u (.seq .u (.seq (.seq .u (.blk (.loop ⟨[.int .i64,.int .i64,.list [.int .i64]],[(2,.full 0),(8,.sc (.int .i64)),(9,.sc (.int .i64))],[.arr [.int .i64]]⟩ (fun ((t,t1,lit):Int×Int×List Int)=>(t-t1).toNat+1) 0 ⟨[.list [.int .i64]],[(2,.full 0)],[.arr [.int .i64]]⟩ (.seq .u (.seq .u (.seq (.blk (.seq .u (.blk (.seq (.reg [.bool] [(15,.sc .bool)]) .u)))) .u)))))) (.seq .u (.seq (.seq .u (.blk (.loop ⟨[.int .i64,.int .i64,.list [.int .i64],.list [.int .i64]],[(2,.full 0),(4,.full 1),(34,.sc (.int .i64)),(35,.sc (.int .i64))],[.arr [.int .i64],.arr [.int .i64]]⟩ (fun ((t2,t3,lit2,dist):Int×Int×List Int×List Int)=>(t2-t3).toNat+1) 3 ⟨[.list [.int .i64],.list [.int .i64]],[(2,.full 0),(4,.full 1)],[.arr [.int .i64],.arr [.int .i64]]⟩ .u))) .u))))) Zbj.S d=Zbj.S.F d:=fun _=>by kernel_rfl
theorem Zbj.sound:Zah Tryz.prog C0 115 Zbj.S:=sE Zbe Zbj.ev (Zai trivial) Tryz.func115
def Zdr.S:ZaR:=⟨0,[.sc .str],[],[.str],⟨[.str],.sc .str,[]⟩,
 fun (text:Str)=>Zdr text⟩
theorem Zdr.ev:∀d,Za9 C0 (hnd (tab [(162,ZeD.S),(163,Zi7.S)])) Tryz.f126 .u Zdr.S d=Zdr.S.F d:=fun _=>by kernel_rfl
theorem Zdr.sound:Zah Tryz.prog C0 126 Zdr.S:=sE Zbe Zdr.ev (Zai ⟨ZeD.sound,Zi7.sound,trivial⟩) Tryz.func126
def ZfQ.S:ZaR:=⟨1,[.ptr 0 0,.sc (.list [.int .i64]),.sc (.list [.int .i64]),.sc (.int .i64)],[.box [.full 1,.sc (.int .i64)],.arr [.int .u8]],[.list [.int .i64],.list [.int .i64],.int .i64,.int .i64,.list [.int .u8]],⟨[.int .i64,.list [.int .u8]],.tup [],[.box [.full 1,.sc (.int .i64)],.arr [.int .u8]]⟩,
 fun ((lens,all,s,many,b):List Int×List Int×Int×Int×List Int)=>ZfQ lens all s many b⟩
theorem ZfQ.ev:∀d,Za9 C0 (hnd (tab [(162,ZeD.S),(191,Zbw.S)])) Tryz.f170 .u ZfQ.S d=ZfQ.S.F d:=fun _=>by kernel_rfl
theorem ZfQ.sound:Zah Tryz.prog C0 170 ZfQ.S:=sE Zbe ZfQ.ev (Zai ⟨ZeD.sound,Zbw.sound,trivial⟩) Tryz.func170
def ZbI.S:ZaR:=⟨1,[.ptr 0 0,.sc (.list [.int .i64,.int .i64,.int .i64]),.sc (.list [.int .i64]),.sc (.list [.int .i64])],[.box [.full 1,.sc (.int .i64)],.arr [.int .u8]],[.list [.int .i64,.int .i64,.int .i64],.list [.int .i64],.list [.int .i64],.int .i64,.list [.int .u8]],⟨[.int .i64,.list [.int .u8]],.tup [],[.box [.full 1,.sc (.int .i64)],.arr [.int .u8]]⟩,
 fun ((list,lit,dist,many,b):(List (Int×Int×Int))×List Int×List Int×Int×List Int)=>ZbI list lit dist many b⟩
theorem ZbI.ev:∀d,Za9 C0 (hnd (tab [(156,ZbU.S),(157,Zb0.S),(162,ZeD.S),(166,Zcf.S),(169,Zcu.S),(170,ZfQ.S)])) Tryz.f164 (.seq .u (.seq (.seq .u (.blk (.loop ⟨[.list [.int .i64],.list [.int .i64],.list [.int .i64,.int .i64,.int .i64],.int .i64,.int .i64,.int .i64,.list [.int .i64],.list [.int .i64],.list [.int .u8]],[(0,.ptr 0 0),(2,.sc (.list [.int .i64])),(3,.sc (.list [.int .i64])),(8,.full 1),(9,.full 2),(17,.sc (.list [.int .i64,.int .i64,.int .i64])),(18,.sc (.int .i64)),(19,.sc (.int .i64))],[.box [.full 3,.sc (.int .i64)],.arr [.int .i64],.arr [.int .i64],.arr [.int .u8]]⟩ (fun ((lit1,dist1,t,t1,t2,o,a,b1,o1):List Int×List Int×(List (Int×Int×Int))×Int×Int×Int×List Int×List Int×List Int)=>(t1-t2).toNat+1) 0 ⟨[.list [.int .i64],.int .i64,.list [.int .i64],.list [.int .u8]],[(0,.ptr 0 0),(2,.sc (.list [.int .i64])),(8,.full 1)],[.box [.full 2,.sc (.int .i64)],.arr [.int .i64],.arr [.int .u8]]⟩ .u))) .u)) ZbI.S d=ZbI.S.F d:=fun _=>by kernel_rfl
theorem ZbI.sound:Zah Tryz.prog C0 164 ZbI.S:=sE Zbe ZbI.ev (Zai ⟨ZbU.sound,Zb0.sound,ZeD.sound,Zcf.sound,Zcu.sound,ZfQ.sound,trivial⟩) Tryz.func164
def Zdw.S:ZaR:=⟨0,[.sc .str],[],[.str],⟨[.str],.sc .str,[]⟩,
 fun (text:Str)=>Zdw text⟩
theorem Zdw.ev:∀d,Za9 C0 (hnd (tab [(115,Zbj.S),(162,ZeD.S),(164,ZbI.S),(165,Zaq.S)])) Tryz.f127 .u Zdw.S d=Zdw.S.F d:=fun _=>by kernel_rfl
theorem Zdw.sound:Zah Tryz.prog C0 127 Zdw.S:=sE Zbe Zdw.ev (Zai ⟨Zbj.sound,ZeD.sound,ZbI.sound,Zaq.sound,trivial⟩) Tryz.func127
def ZbF.S:ZaR:=⟨0,[.sc (.list [.int .i64]),.sc (.int .i64)],[],[.list [.int .i64],.int .i64],⟨[.list [.int .i64]],.sc (.list [.int .i64]),[]⟩,
 fun ((lens,least_):List Int×Int)=>ZbF lens least_⟩
theorem ZbF.ev:∀d,Za9 C0 (hnd (tab [])) Tryz.f167 (.seq .u (.seq .u (.seq (.blk (.loop ⟨[.list [.int .i64],.int .i64,.int .i64],[(0,.sc (.list [.int .i64])),(1,.sc (.int .i64)),(5,.sc (.int .i64))],[]⟩ (fun ((lens1,least_1,n):List Int×Int×Int)=>(n-least_1).toNat+1) 0 ⟨[.list [.int .i64],.int .i64],[(0,.sc (.list [.int .i64])),(5,.sc (.int .i64))],[]⟩ (.seq (.seq (.reg [.bool] [(18,.sc .bool)]) .u) .u))) .u))) ZbF.S d=ZbF.S.F d:=fun _=>by kernel_rfl
theorem ZbF.sound:Zah Tryz.prog C0 167 ZbF.S:=sE Zbe ZbF.ev (Zai trivial) Tryz.func167
def ZaX.S:ZaR:=⟨0,[.sc .str],[],[.str],⟨[.str],.sc .str,[]⟩,
 fun (text:Str)=>ZaX text⟩
theorem ZaX.ev:∀d,Za9 C0 (hnd (tab [(156,ZbU.S),(157,Zb0.S),(162,ZeD.S),(164,ZbI.S),(165,Zaq.S),(166,Zcf.S),(167,ZbF.S),(168,ZaV.S),(169,Zcu.S),(170,ZfQ.S)])) Tryz.f128 (.seq .u (.seq .u (.seq .u (.seq .u (.seq .u (.seq .u (.seq (.seq .u (.blk (.loop ⟨[.bool,.int .i64,.int .i64,.list [.int .i64,.int .i64,.int .i64],.list [.int .i64],.list [.int .i64]],[(3,.full 0),(4,.full 1),(5,.full 2),(6,.sc .bool),(31,.full 0),(32,.sc (.int .i64)),(33,.sc (.int .i64))],[.arr [.int .i64,.int .i64,.int .i64],.arr [.int .i64],.arr [.int .i64]]⟩ (fun ((none_,t,t1,o,a,b):Bool×Int×Int×(List (Int×Int×Int))×List Int×List Int)=>(t-t1).toNat+1) 0 ⟨[.bool,.list [.int .i64,.int .i64,.int .i64],.list [.int .i64],.list [.int .i64]],[(3,.full 0),(4,.full 1),(5,.full 2),(6,.sc .bool)],[.arr [.int .i64,.int .i64,.int .i64],.arr [.int .i64],.arr [.int .i64]]⟩ .u))) (.join ⟨[.list [.int .i64,.int .i64,.int .i64],.list [.int .i64],.list [.int .i64]],[(3,.full 0),(4,.full 1),(5,.full 2)],[.arr [.int .i64,.int .i64,.int .i64],.arr [.int .i64],.arr [.int .i64]]⟩ .u (.seq .u (.seq .u (.seq .u (.seq (.seq .u (.blk (.loop ⟨[.list [.int .i64],.list [.int .i64],.int .i64,.int .i64,.list [.int .i64,.int .i64,.int .i64],.list [.int .i64],.list [.int .i64]],[(3,.full 0),(9,.sc (.list [.int .i64])),(10,.sc (.list [.int .i64])),(11,.full 1),(12,.full 2),(84,.full 1),(85,.sc (.int .i64)),(86,.sc (.int .i64))],[.arr [.int .i64,.int .i64,.int .i64],.arr [.int .i64],.arr [.int .i64]]⟩ (fun ((lit,dist,t2,t3,list2,o1,c):List Int×List Int×Int×Int×(List (Int×Int×Int))×List Int×List Int)=>(t2-t3).toNat+1) 2 ⟨[.list [.int .i64],.list [.int .i64],.list [.int .i64,.int .i64,.int .i64],.list [.int .i64],.list [.int .i64]],[(3,.full 0),(9,.sc (.list [.int .i64])),(10,.sc (.list [.int .i64])),(11,.full 1),(12,.full 2)],[.arr [.int .i64,.int .i64,.int .i64],.arr [.int .i64],.arr [.int .i64]]⟩ .u))) (.seq .u (.seq .u (.seq .u (.seq .u (.seq .u (.seq .u (.seq .u (.seq (.seq .u (.blk (.loop ⟨[.list [.int .i64],.list [.int .i64],.list [.int .i64],.int .i64,.int .i64,.list [.int .i64,.int .i64,.int .i64],.list [.int .i64],.list [.int .i64],.int .i64,.list [.int .u8]],[(3,.full 0),(9,.sc (.list [.int .i64])),(10,.sc (.list [.int .i64])),(11,.full 1),(15,.full 2),(16,.ptr 3 0),(120,.sc (.list [.int .i64])),(121,.sc (.int .i64)),(122,.sc (.int .i64))],[.arr [.int .i64,.int .i64,.int .i64],.arr [.int .i64],.arr [.int .i64],.box [.full 4,.sc (.int .i64)],.arr [.int .u8]]⟩ (fun ((lit2,dist2,t4,t5,t6,list4,all1,meta_,o2,o3):List Int×List Int×List Int×Int×Int×(List (Int×Int×Int))×List Int×List Int×Int×List Int)=>(t5-t6).toNat+1) 4 ⟨[.list [.int .i64],.list [.int .i64],.list [.int .i64,.int .i64,.int .i64],.list [.int .i64],.list [.int .i64],.int .i64,.list [.int .u8]],[(3,.full 0),(9,.sc (.list [.int .i64])),(10,.sc (.list [.int .i64])),(11,.full 1),(15,.full 2),(16,.ptr 3 0)],[.arr [.int .i64,.int .i64,.int .i64],.arr [.int .i64],.arr [.int .i64],.box [.full 4,.sc (.int .i64)],.arr [.int .u8]]⟩ .u))) (.seq .u (.seq (.seq .u (.blk (.loop ⟨[.list [.int .i64],.list [.int .i64],.int .i64,.int .i64,.list [.int .i64,.int .i64,.int .i64],.list [.int .i64],.int .i64,.list [.int .i64],.list [.int .i64],.list [.int .u8]],[(3,.full 0),(9,.sc (.list [.int .i64])),(10,.sc (.list [.int .i64])),(15,.full 1),(16,.ptr 2 0),(19,.full 3),(135,.full 4),(136,.sc (.int .i64)),(137,.sc (.int .i64))],[.arr [.int .i64,.int .i64,.int .i64],.arr [.int .i64],.box [.full 5,.sc (.int .i64)],.arr [.int .i64],.arr [.int .i64],.arr [.int .u8]]⟩ (fun ((lit4,dist4,t7,t8,list6,meta_2,o6,m,o7,o8):List Int×List Int×Int×Int×(List (Int×Int×Int))×List Int×Int×List Int×List Int×List Int)=>(t7-t8).toNat+1) 6 ⟨[.list [.int .i64],.list [.int .i64],.list [.int .i64,.int .i64,.int .i64],.int .i64,.list [.int .u8]],[(3,.full 0),(9,.sc (.list [.int .i64])),(10,.sc (.list [.int .i64])),(16,.ptr 1 0)],[.arr [.int .i64,.int .i64,.int .i64],.box [.full 2,.sc (.int .i64)],.arr [.int .u8]]⟩ .u))) .u)))))))))))))))))))))) ZaX.S d=ZaX.S.F d:=fun _=>by kernel_rfl
theorem ZaX.sound:Zah Tryz.prog C0 128 ZaX.S:=sE Zbe ZaX.ev (Zai ⟨ZbU.sound,Zb0.sound,ZeD.sound,ZbI.sound,Zaq.sound,Zcf.sound,ZbF.sound,ZaV.sound,Zcu.sound,ZfQ.sound,trivial⟩) Tryz.func128
def Za4.S:ZaR:=⟨0,[.sc .str],[],[.str],⟨[.str],.sc .str,[]⟩,
 fun (text:Str)=>Za4 text⟩
theorem Za4.ev:∀d,Za9 C0 (hnd (tab [(126,Zdr.S),(127,Zdw.S),(128,ZaX.S)])) Tryz.f72 (.seq .u (.seq .u (.seq (.seq .u (.blk (.loop ⟨[.str,.int .i64,.int .i64,.list [.str]],[(3,.sc .str),(12,.full 0),(13,.sc (.int .i64)),(14,.sc (.int .i64))],[.arr [.str]]⟩ (fun ((best,t,t1,o):Str×Int×Int×List Str)=>(t-t1).toNat+1) 0 ⟨[.str],[(3,.sc .str)],[]⟩ .u))) .u))) Za4.S d=Za4.S.F d:=fun _=>by kernel_rfl
theorem Za4.sound:Zah Tryz.prog C0 72 Za4.S:=sE Zbe Za4.ev (Zai ⟨Zdr.sound,Zdw.sound,ZaX.sound,trivial⟩) Tryz.func72
def ZbP.S:ZaR:=⟨1,[.ptr 0 0,.full 1],[.box [.sc .str,.sc (.int .i64),.sc .bool],.arr [.int .u8]],[.str,.int .i64,.bool,.list [.int .u8]],⟨[.str,.int .i64,.bool,.list [.int .u8]],.full 1,[.box [.sc .str,.sc (.int .i64),.sc .bool],.arr [.int .u8]]⟩,
 fun ((s,at_,bad,out):Str×Int×Bool×List Int)=>ZbP s at_ bad out⟩
theorem ZbP.ev:∀d,Za9 C0 (hnd (tab [(113,ZeG.S),(118,Zd3.S)])) Tryz.f114 (.seq .u (.seq .u (.seq .u (.join ⟨[.int .i64,.str,.int .i64,.bool,.list [.int .u8]],[(0,.ptr 0 0),(1,.full 1),(5,.sc (.int .i64))],[.box [.sc .str,.sc (.int .i64),.sc .bool],.arr [.int .u8]]⟩ .u (.seq (.seq .u (.blk (.loop ⟨[.int .i64,.int .i64,.str,.int .i64,.bool,.list [.int .u8]],[(0,.ptr 0 0),(1,.full 1),(5,.sc (.int .i64)),(7,.sc (.int .i64))],[.box [.sc .str,.sc (.int .i64),.sc .bool],.arr [.int .u8]]⟩ (fun ((n1,k,o3,o4,o5,out2):Int×Int×Str×Int×Bool×List Int)=>(n1-k).toNat+1) 0 ⟨[.str,.int .i64,.bool,.list [.int .u8]],[(1,.full 1)],[.box [.sc .str,.sc (.int .i64),.sc .bool],.arr [.int .u8]]⟩ (.seq (.seq (.reg [.bool] [(35,.sc .bool)]) .u) .u)))) .u))))) ZbP.S d=ZbP.S.F d:=fun _=>by kernel_rfl
theorem ZbP.sound:Zah Tryz.prog C0 114 ZbP.S:=sE Zbe ZbP.ev (Zai ⟨ZeG.sound,Zd3.sound,trivial⟩) Tryz.func114
def Zar.S:ZaR:=⟨1,[.ptr 0 0],[.box [.sc .str,.sc (.int .i64),.sc .bool]],[.str,.int .i64,.bool],⟨[.list [.int .i64],.list [.int .i64],.str,.int .i64,.bool],.tup [.sc (.list [.int .i64]),.sc (.list [.int .i64])],[.box [.sc .str,.sc (.int .i64),.sc .bool]]⟩,
 fun ((s,at_,bad):Str×Int×Bool)=>Zar s at_ bad⟩
theorem Zar.ev:∀d,Za9 C0 (hnd (tab [(113,ZeG.S),(153,Zb6.S),(154,Zb8.S),(155,Zbh.S)])) Tryz.f117 (.seq .u (.seq .u (.join ⟨[.int .i64,.int .i64,.int .i64,.str,.int .i64,.bool],[(0,.ptr 0 0),(4,.sc (.int .i64)),(5,.sc (.int .i64)),(6,.sc (.int .i64))],[.box [.sc .str,.sc (.int .i64),.sc .bool]]⟩ (.seq (.reg [.bool] [(29,.sc .bool)]) .u) (.seq .u (.seq (.seq .u (.blk (.loop ⟨[.int .i64,.int .i64,.list [.int .i64],.int .i64,.int .i64,.str,.int .i64,.bool,.list [.int .i64]],[(0,.ptr 0 0),(4,.sc (.int .i64)),(5,.sc (.int .i64)),(7,.full 1),(38,.sc (.list [.int .i64])),(39,.sc (.int .i64)),(40,.sc (.int .i64))],[.box [.sc .str,.sc (.int .i64),.sc .bool],.arr [.int .i64]]⟩ (fun ((lit1,dist1,t,t1,t2,o3,o4,o5,meta_):Int×Int×List Int×Int×Int×Str×Int×Bool×List Int)=>(t1-t2).toNat+1) 0 ⟨[.int .i64,.int .i64,.str,.int .i64,.bool,.list [.int .i64]],[(0,.ptr 0 0),(4,.sc (.int .i64)),(5,.sc (.int .i64)),(7,.full 1)],[.box [.sc .str,.sc (.int .i64),.sc .bool],.arr [.int .i64]]⟩ .u))) (.seq (.seq (.reg [.bool] [(58,.sc .bool)]) .u) (.seq .u (.seq .u (.seq (.blk (.loop ⟨[.int .i64,.int .i64,.str,.int .i64,.bool,.map [.int .i64,.int .i64] [.int .i64],.list [.int .i64]],[(0,.ptr 0 0),(4,.sc (.int .i64)),(5,.sc (.int .i64)),(10,.map 1),(11,.full 2)],[.box [.sc .str,.sc (.int .i64),.sc .bool],.map [.int .i64,.int .i64] [.int .i64],.arr [.int .i64]]⟩ (fun ((lit3,dist3,o9,o10,o11,o12,all):Int×Int×Str×Int×Bool×(List ((Int×Int)×Int))×List Int)=>((w64 (lit3+dist3))-(all.length:Int)).toNat+1) 2 ⟨[.int .i64,.int .i64,.str,.int .i64,.bool,.list [.int .i64]],[(0,.ptr 0 0),(4,.sc (.int .i64)),(5,.sc (.int .i64)),(11,.full 1)],[.box [.sc .str,.sc (.int .i64),.sc .bool],.arr [.int .i64]]⟩ (.seq (.seq (.reg [.bool] [(77,.sc .bool)]) .u) (.blk (.seq .u (.seq .u (.join ⟨[.int .i64,.int .i64,.int .i64,.int .i64,.str,.int .i64,.bool,.map [.int .i64,.int .i64] [.int .i64],.list [.int .i64]],[(0,.ptr 0 0),(4,.sc (.int .i64)),(5,.sc (.int .i64)),(10,.map 1),(11,.full 2),(13,.sc (.int .i64)),(14,.sc (.int .i64))],[.box [.sc .str,.sc (.int .i64),.sc .bool],.map [.int .i64,.int .i64] [.int .i64],.arr [.int .i64]]⟩ .u (.seq .u (.blk (.loop ⟨[.int .i64,.int .i64,.int .i64,.int .i64,.int .i64,.str,.int .i64,.bool,.map [.int .i64,.int .i64] [.int .i64],.list [.int .i64]],[(0,.ptr 0 0),(4,.sc (.int .i64)),(5,.sc (.int .i64)),(10,.map 1),(11,.full 2),(13,.sc (.int .i64)),(112,.sc (.int .i64)),(113,.sc (.int .i64))],[.box [.sc .str,.sc (.int .i64),.sc .bool],.map [.int .i64,.int .i64] [.int .i64],.arr [.int .i64]]⟩ (fun ((lit5,dist5,again_1,t3,t4,o17,o18,o19,o20,all2):Int×Int×Int×Int×Int×Str×Int×Bool×(List ((Int×Int)×Int))×List Int)=>(t3-t4).toNat+1) 5 ⟨[.int .i64,.int .i64,.str,.int .i64,.bool,.map [.int .i64,.int .i64] [.int .i64],.list [.int .i64]],[(0,.ptr 0 0),(4,.sc (.int .i64)),(5,.sc (.int .i64)),(10,.map 1),(11,.full 2)],[.box [.sc .str,.sc (.int .i64),.sc .bool],.map [.int .i64,.int .i64] [.int .i64],.arr [.int .i64]]⟩ .u)))))))))) (.seq (.seq (.reg [.bool] [(131,.sc .bool)]) .u) .u)))))))))) Zar.S d=Zar.S.F d:=fun _=>by kernel_rfl
theorem Zar.sound:Zah Tryz.prog C0 117 Zar.S:=sE Zbe Zar.ev (Zai ⟨ZeG.sound,Zb6.sound,Zb8.sound,Zbh.sound,trivial⟩) Tryz.func117
def Zcd.S:ZaR:=⟨1,[.ptr 0 0,.full 1,.sc (.list [.int .i64]),.sc (.list [.int .i64])],[.box [.sc .str,.sc (.int .i64),.sc .bool],.arr [.int .u8]],[.list [.int .i64],.list [.int .i64],.str,.int .i64,.bool,.list [.int .u8]],⟨[.str,.int .i64,.bool,.list [.int .u8]],.full 1,[.box [.sc .str,.sc (.int .i64),.sc .bool],.arr [.int .u8]]⟩,
 fun ((lit,dist,s,at_,bad,out):List Int×List Int×Str×Int×Bool×List Int)=>Zcd lit dist s at_ bad out⟩
theorem Zcd.ev:∀d,Za9 C0 (hnd (tab [(113,ZeG.S),(153,Zb6.S),(154,Zb8.S),(155,Zbh.S),(156,ZbU.S),(157,Zb0.S),(158,add.S)])) Tryz.f116 (.seq .u (.seq (.seq (.reg [.bool] [(29,.sc .bool)]) .u) (.seq .u (.seq (.blk (.loopS ⟨[.str,.int .i64,.bool,.list [.int .u8],.map [.int .i64,.int .i64] [.int .i64],.map [.int .i64,.int .i64] [.int .i64]],[(0,.ptr 0 0),(1,.full 1),(9,.map 2),(10,.map 3)],[.box [.sc .str,.sc (.int .i64),.sc .bool],.arr [.int .u8],.map [.int .i64,.int .i64] [.int .i64],.map [.int .i64,.int .i64] [.int .i64]]⟩ (fun ((o,o1,o2,out1,o3,o4):Str×Int×Bool×List Int×(List ((Int×Int)×Int))×List ((Int×Int)×Int))=>100000) 0 ⟨[.str,.int .i64,.bool,.list [.int .u8]],[(1,.full 1)],[.box [.sc .str,.sc (.int .i64),.sc .bool],.arr [.int .u8]]⟩ (.seq (.seq (.reg [.bool] [(47,.sc .bool)]) .u) (.blk (.seq .u (.seq (.blk (.seq (.reg [.bool] [(51,.sc .bool)]) .u)) (.seq (.cm [(1,[0]),(2,[0]),(3,[0]),(4,[0]),(5,[0])]) (.seq .u (.seq .u (.seq (.cm [(1,[0]),(2,[0]),(3,[0]),(4,[0])]) (.seq .u (.seq (.seq (.reg [.bool] [(129,.sc .bool)]) .u) .u)))))))))))) .u)))) Zcd.S d=Zcd.S.F d:=fun _=>by kernel_rfl
theorem Zcd.sound:Zah Tryz.prog C0 116 Zcd.S:=sE Zbe Zcd.ev (Zai ⟨ZeG.sound,Zb6.sound,Zb8.sound,Zbh.sound,ZbU.sound,Zb0.sound,add.sound,trivial⟩) Tryz.func116
end Ev
end
section
open Go Go.Proofs
set_option maxRecDepth 100000
namespace Ev
set_option maxHeartbeats 1000000
def Za2.S:ZaR:=⟨1,[.ptr 0 0,.full 1,.sc (.list [.int .i64]),.sc (.list [.int .i64])],[.box [.sc .str,.sc (.int .i64),.sc .bool],.arr [.int .u8]],[.list [.int .i64],.list [.int .i64],.str,.int .i64,.bool,.list [.int .u8]],⟨[.str,.int .i64,.bool],.undef,[.box [.sc .str,.sc (.int .i64),.sc .bool]]⟩,
 fun ((lit,dist,s,at_,bad,out):List Int×List Int×Str×Int×Bool×List Int)=>Za2 lit dist s at_ bad out⟩
theorem Za2.ev:∀d,Za9 C0 (hnd (tab [(113,ZeG.S),(153,Zb6.S),(154,Zb8.S),(155,Zbh.S),(156,ZbU.S),(157,Zb0.S),(158,add.S)])) Tryz.f116 (.seq .u (.seq (.seq (.reg [.bool] [(29,.sc .bool)]) .u) (.seq .u (.seq (.blk (.loopS ⟨[.str,.int .i64,.bool,.list [.int .u8],.map [.int .i64,.int .i64] [.int .i64],.map [.int .i64,.int .i64] [.int .i64]],[(0,.ptr 0 0),(1,.full 1),(9,.map 2),(10,.map 3)],[.box [.sc .str,.sc (.int .i64),.sc .bool],.arr [.int .u8],.map [.int .i64,.int .i64] [.int .i64],.map [.int .i64,.int .i64] [.int .i64]]⟩ (fun ((o,o1,o2,out1,o3,o4):Str×Int×Bool×List Int×(List ((Int×Int)×Int))×List ((Int×Int)×Int))=>100000) 0 ⟨[.str,.int .i64,.bool,.list [.int .u8]],[(1,.full 1)],[.box [.sc .str,.sc (.int .i64),.sc .bool],.arr [.int .u8]]⟩ (.seq (.seq (.reg [.bool] [(47,.sc .bool)]) .u) (.blk (.seq .u (.seq (.blk (.seq (.reg [.bool] [(51,.sc .bool)]) .u)) (.seq (.cm [(1,[0]),(2,[0]),(3,[0]),(4,[0]),(5,[0])]) (.seq .u (.seq .u (.seq (.cm [(1,[0]),(2,[0]),(3,[0]),(4,[0])]) (.seq .u (.seq (.seq (.reg [.bool] [(129,.sc .bool)]) .u) .u)))))))))))) .u)))) Za2.S d=Za2.S.F d:=fun _=>by kernel_rfl
theorem Za2.sound:Zah Tryz.prog C0 116 Za2.S:=sE Zbe Za2.ev (Zai ⟨ZeG.sound,Zb6.sound,Zb8.sound,Zbh.sound,ZbU.sound,Zb0.sound,add.sound,trivial⟩) Tryz.func116
def Zbk.S:ZaR:=⟨0,[.sc .str],[],[.str],⟨[.str,.int .i64,.bool],.tup [.sc .str,.sc (.int .i64),.sc .bool],[]⟩,
 fun (text:Str)=>Zbk text⟩
theorem Zbk.ev:∀d,Za9 C0 (hnd (tab [(112,Zh2.S),(113,ZeG.S),(114,ZbP.S),(115,Zbj.S),(116,Zcd.S),(116,Za2.S),(117,Zar.S),(118,Zd3.S)])) Tryz.f66 (.seq .u (.seq .u (.seq .u (.seq .u (.seq (.seq .u (.blk (.loopS ⟨[.bool,.str,.int .i64,.bool,.list [.int .u8]],[(5,.ptr 0 0),(6,.full 1),(7,.sc .bool)],[.box [.sc .str,.sc (.int .i64),.sc .bool],.arr [.int .u8]]⟩ (fun ((last,o,o1,o2,out):Bool×Str×Int×Bool×List Int)=>100000) 0 ⟨[.str,.int .i64,.bool,.list [.int .u8]],[(5,.ptr 0 0),(6,.full 1)],[.box [.sc .str,.sc (.int .i64),.sc .bool],.arr [.int .u8]]⟩ .u))) .u))))) Zbk.S d=Zbk.S.F d:=fun _=>by kernel_rfl
theorem Zbk.sound:Zah Tryz.prog C0 66 Zbk.S:=sE Zbe Zbk.ev (Zai ⟨Zh2.sound,ZeG.sound,ZbP.sound,Zbj.sound,Zcd.sound,Za2.sound,Zar.sound,Zd3.sound,trivial⟩) Tryz.func66
def ZnN.S:ZaR:=⟨0,[.sc (.int .i64),.sc (.int .i64)],[],[.int .i64,.int .i64],⟨[.int .i64],.sc (.int .i64),[]⟩,
 fun ((year,month):Int×Int)=>ZnN year month⟩
theorem ZnN.ev:∀d,Za9 C0 (hnd (tab [])) Tryz.f105 (.seq .u (.seq (.seq .u (.blk (.join ⟨[.int .i64,.int .i64,.bool],[(0,.sc (.int .i64)),(5,.sc (.int .i64)),(6,.sc .bool)],[]⟩ .u (.cond .u (.seq .u (.cond (.seq (.seq (.reg [.bool] [(25,.sc .bool)]) .u) .u) .u)))))) .u)) ZnN.S d=ZnN.S.F d:=fun _=>by kernel_rfl
theorem ZnN.sound:Zah Tryz.prog C0 105 ZnN.S:=sE Zbe ZnN.ev (Zai trivial) Tryz.func105
def Zdm.S:ZaR:=⟨0,[.agg [.sc (.int .i64),.sc (.int .i64),.sc (.int .i64),.sc (.int .i64),.sc (.int .i64),.sc (.int .i64)]],[],[.int .i64,.int .i64,.int .i64,.int .i64,.int .i64,.int .i64],⟨[.bool],.sc .bool,[]⟩,
 fun ((y,mo,d,h,mi,sec):Int×Int×Int×Int×Int×Int)=>Zdm y mo d h mi sec⟩
theorem Zdm.ev:∀d,Za9 C0 (hnd (tab [(104,Zbr.S),(105,ZnN.S)])) Tryz.f60 (.seq .u (.seq (.reg [.bool] [(2,.sc .bool)]) .u)) Zdm.S d=Zdm.S.F d:=fun _=>by kernel_rfl
theorem Zdm.sound:Zah Tryz.prog C0 60 Zdm.S:=sE Zbe Zdm.ev (Zai ⟨Zbr.sound,ZnN.sound,trivial⟩) Tryz.func60
def Zci.S:ZaR:=⟨0,[.agg [.sc (.int .i64),.sc (.int .i64),.sc (.int .i64),.sc (.int .i64),.sc (.int .i64),.sc (.int .i64)]],[],[.int .i64,.int .i64,.int .i64,.int .i64,.int .i64,.int .i64],⟨[.int .i64],.sc (.int .i64),[]⟩,
 fun ((y,mo,d,h,mi,sec):Int×Int×Int×Int×Int×Int)=>Zci y mo d h mi sec⟩
theorem Zci.ev:∀d,Za9 C0 (hnd (tab [(60,Zdm.S)])) Tryz.f111 .u Zci.S d=Zci.S.F d:=fun _=>by kernel_rfl
theorem Zci.sound:Zah Tryz.prog C0 111 Zci.S:=sE Zbe Zci.ev (Zai ⟨Zdm.sound,trivial⟩) Tryz.func111
def Zds.S:ZaR:=⟨0,[.sc (.int .i64)],[],[.int .i64],⟨[.int .i64,.int .i64,.int .i64,.int .i64,.int .i64,.int .i64,.bool],.tup [.agg [.sc (.int .i64),.sc (.int .i64),.sc (.int .i64),.sc (.int .i64),.sc (.int .i64),.sc (.int .i64)],.sc .bool],[]⟩,
 fun (n:Int)=>Zds n⟩
theorem Zds.ev:∀d,Za9 C0 (hnd (tab [(111,Zci.S)])) Tryz.f65 .u Zds.S d=Zds.S.F d:=fun _=>by kernel_rfl
theorem Zds.sound:Zah Tryz.prog C0 65 Zds.S:=sE Zbe Zds.ev (Zai ⟨Zci.sound,trivial⟩) Tryz.func65
def ZbZ.S:ZaR:=⟨0,[.agg [.sc .str,.sc (.int .i64),.sc (.int .i64),.sc (.int .i64),.sc (.int .i64),.sc (.int .i64),.sc (.int .i64),.sc .str]],[],[.str,.int .i64,.int .i64,.int .i64,.int .i64,.int .i64,.int .i64,.str],⟨[.bool],.sc .bool,[]⟩,
 fun ((name,y,mo,d,h,mi,sec,text):Str×Int×Int×Int×Int×Int×Int×Str)=>ZbZ name y mo d h mi sec text⟩
theorem ZbZ.ev:∀d,Za9 C0 (hnd (tab [(49,Za1.S),(60,Zdm.S)])) Tryz.f28 (.seq .u (.seq (.reg [.bool] [(2,.sc .bool)]) .u)) ZbZ.S d=ZbZ.S.F d:=fun _=>by kernel_rfl
theorem ZbZ.sound:Zah Tryz.prog C0 28 ZbZ.S:=sE Zbe ZbZ.ev (Zai ⟨Za1.sound,Zdm.sound,trivial⟩) Tryz.func28
def Zbs.S:ZaR:=⟨0,[.sc (.int .i64),.sc (.int .i64)],[],[.int .i64,.int .i64],⟨[.str],.sc .str,[]⟩,
 fun ((n,bytes):Int×Int)=>Zbs n bytes⟩
theorem Zbs.ev:∀d,Za9 C0 (hnd (tab [])) Tryz.f100 (.seq .u (.seq .u (.seq (.seq .u (.blk (.loop ⟨[.int .i64,.int .i64,.int .i64,.list [.int .u8]],[(0,.sc (.int .i64)),(5,.full 0),(7,.sc (.int .i64)),(8,.sc (.int .i64))],[.arr [.int .u8]]⟩ (fun ((n1,t,t1,out):Int×Int×Int×List Int)=>(t-t1).toNat+1) 0 ⟨[.list [.int .u8]],[(5,.full 0)],[.arr [.int .u8]]⟩ .u))) .u))) Zbs.S d=Zbs.S.F d:=fun _=>by kernel_rfl
theorem Zbs.sound:Zah Tryz.prog C0 100 Zbs.S:=sE Zbe Zbs.ev (Zai trivial) Tryz.func100
def Za6.S:ZaR:=⟨0,[.sc .str,.sc (.int .i64),.sc (.int .i64)],[],[.str,.int .i64,.int .i64],⟨[.int .i64],.sc (.int .i64),[]⟩,
 fun ((s,at_,bytes):Str×Int×Int)=>Za6 s at_ bytes⟩
theorem Za6.ev:∀d,Za9 C0 (hnd (tab [])) Tryz.f64 (.seq .u (.seq .u (.seq (.seq .u (.blk (.loop ⟨[.str,.int .i64,.int .i64,.int .i64],[(0,.sc .str),(1,.sc (.int .i64)),(7,.sc (.int .i64)),(8,.sc (.int .i64))],[]⟩ (fun ((s1,at_1,n,k):Str×Int×Int×Int)=>(k-0).toNat+2) 0 ⟨[.int .i64],[(7,.sc (.int .i64))],[]⟩ .u))) .u))) Za6.S d=Za6.S.F d:=fun _=>by kernel_rfl
theorem Za6.sound:Zah Tryz.prog C0 64 Za6.S:=sE Zbe Za6.ev (Zai trivial) Tryz.func64
def ZdQ.S:ZaR:=⟨0,[.agg [.sc .str,.sc (.int .i64),.sc (.int .i64),.sc (.int .i64),.sc (.int .i64),.sc (.int .i64),.sc (.int .i64),.sc .str],.sc (.int .i64),.sc (.int .i64)],[],[.str,.int .i64,.int .i64,.int .i64,.int .i64,.int .i64,.int .i64,.str,.int .i64,.int .i64],⟨[.str],.sc .str,[]⟩,
 fun ((name,y,mo,d,h,mi,sec,text,method,packed):Str×Int×Int×Int×Int×Int×Int×Str×Int×Int)=>ZdQ name y mo d h mi sec text method packed⟩
theorem ZdQ.ev:∀d,Za9 C0 (hnd (tab [(100,Zbs.S),(111,Zci.S),(119,crc.S)])) Tryz.f67 .u ZdQ.S d=ZdQ.S.F d:=fun _=>by kernel_rfl
theorem ZdQ.sound:Zah Tryz.prog C0 67 ZdQ.S:=sE Zbe ZdQ.ev (Zai ⟨Zbs.sound,Zci.sound,crc.sound,trivial⟩) Tryz.func67
def Zbt.S:ZaR:=⟨0,[.agg [.sc .str,.sc (.int .i64),.sc (.int .i64),.sc (.int .i64),.sc (.int .i64),.sc (.int .i64),.sc (.int .i64),.sc .str]],[],[.str,.int .i64,.int .i64,.int .i64,.int .i64,.int .i64,.int .i64,.str],⟨[.str],.sc .str,[]⟩,
 fun ((name,y,mo,d,h,mi,sec,text):Str×Int×Int×Int×Int×Int×Int×Str)=>Zbt name y mo d h mi sec text⟩
theorem Zbt.ev:∀d,Za9 C0 (hnd (tab [(28,ZbZ.S),(67,ZdQ.S),(72,Za4.S)])) Tryz.f27 .u Zbt.S d=Zbt.S.F d:=fun _=>by kernel_rfl
theorem Zbt.sound:Zah Tryz.prog C0 27 Zbt.S:=sE Zbe Zbt.ev (Zai ⟨ZbZ.sound,ZdQ.sound,Za4.sound,trivial⟩) Tryz.func27
def ZbM.S:ZaR:=⟨0,[.sc .str],[],[.str],⟨[.str,.int .i64,.int .i64,.int .i64,.int .i64,.int .i64,.int .i64,.str,.int .i64,.bool],.tup [.agg [.sc .str,.sc (.int .i64),.sc (.int .i64),.sc (.int .i64),.sc (.int .i64),.sc (.int .i64),.sc (.int .i64),.sc .str],.sc (.int .i64),.sc .bool],[]⟩,
 fun (text:Str)=>ZbM text⟩
theorem ZbM.ev:∀d,Za9 C0 (hnd (tab [(28,ZbZ.S),(64,Za6.S),(65,Zds.S),(66,Zbk.S),(67,ZdQ.S)])) Tryz.f24 (.seq .u (.seq .u (.seq .u (.seq .u (.seq (.seq (.reg [.bool] [(36,.sc .bool)]) .u) (.seq .u (.seq .u (.joinS ⟨[.str,.int .i64,.int .i64,.int .i64,.str,.int .i64,.int .i64,.int .i64,.int .i64,.int .i64,.int .i64,.str,.str,.int .i64,.int .i64,.int .i64,.int .i64,.int .i64,.int .i64,.str],[(0,.sc .str),(2,.ptr 0 0),(5,.sc (.int .i64)),(6,.sc (.int .i64)),(7,.sc (.int .i64)),(9,.ptr 1 0)],[.box [.sc .str,.sc (.int .i64),.sc (.int .i64),.sc (.int .i64),.sc (.int .i64),.sc (.int .i64),.sc (.int .i64),.sc .str],.box [.sc .str,.sc (.int .i64),.sc (.int .i64),.sc (.int .i64),.sc (.int .i64),.sc (.int .i64),.sc (.int .i64),.sc .str]]⟩ (.seq .u (.blk (.seq .u (.cond .u (.seq .u (.cond (.seq .u (.seq (.seq (.reg [.bool] [(74,.sc .bool)]) .u) .u)) .u)))))) (.seq (.seq (.reg [.bool] [(89,.sc .bool)]) .u) .u))))))))) ZbM.S d=ZbM.S.F d:=fun _=>by kernel_rfl
theorem ZbM.sound:Zah Tryz.prog C0 24 ZbM.S:=sE Zbe ZbM.ev (Zai ⟨ZbZ.sound,Za6.sound,Zds.sound,Zbk.sound,ZdQ.sound,trivial⟩) Tryz.func24
def joinS.S:ZaR:=Zsu
theorem joinS.sound:Zah Tryz.prog C0 53 joinS.S:=ZtF Tryz.lays156 Tryz.Builder_Extra_156 Tryz.func53 (by kernel_rfl) (by kernel_rfl)
def Zb9.S:ZaR:=⟨0,[.sc (.list [.str,.int .i64,.int .i64,.int .i64,.int .i64,.int .i64,.int .i64,.str])],[],[.list [.str,.int .i64,.int .i64,.int .i64,.int .i64,.int .i64,.int .i64,.str]],⟨[.list [.str]],.full 0,[.arr [.str]]⟩,
 fun (list:List (Str×Int×Int×Int×Int×Int×Int×Str))=>Zb9 list⟩
theorem Zb9.ev:∀d,Za9 C0 (hnd (tab [])) Tryz.f73 (.seq .u (.seq .u (.seq (.seq .u (.blk (.loop ⟨[.list [.str,.int .i64,.int .i64,.int .i64,.int .i64,.int .i64,.int .i64,.str],.int .i64,.int .i64,.list [.str]],[(3,.full 0),(7,.sc (.list [.str,.int .i64,.int .i64,.int .i64,.int .i64,.int .i64,.int .i64,.str])),(8,.sc (.int .i64)),(9,.sc (.int .i64))],[.arr [.str]]⟩ (fun ((t,t1,t2,out):(List (Str×Int×Int×Int×Int×Int×Int×Str))×Int×Int×List Str)=>(t1-t2).toNat+1) 0 ⟨[.list [.str]],[(3,.full 0)],[.arr [.str]]⟩ .u))) .u))) Zb9.S d=Zb9.S.F d:=fun _=>by kernel_rfl
theorem Zb9.sound:Zah Tryz.prog C0 73 Zb9.S:=sE Zbe Zb9.ev (Zai trivial) Tryz.func73
def ZcY.S:ZaR:=⟨0,[.sc (.list [.str,.int .i64,.int .i64,.int .i64,.int .i64,.int .i64,.int .i64,.str])],[],[.list [.str,.int .i64,.int .i64,.int .i64,.int .i64,.int .i64,.int .i64,.str]],⟨[.bool],.sc .bool,[]⟩,
 fun (list:List (Str×Int×Int×Int×Int×Int×Int×Str))=>ZcY list⟩
theorem ZcY.ev:∀d,Za9 C0 (hnd (tab [(28,ZbZ.S),(50,Zc6.S),(73,Zb9.S)])) Tryz.f30 (.seq .u (.seq (.seq .u (.blk (.loopS ⟨[.list [.str,.int .i64,.int .i64,.int .i64,.int .i64,.int .i64,.int .i64,.str],.list [.str,.int .i64,.int .i64,.int .i64,.int .i64,.int .i64,.int .i64,.str],.int .i64,.int .i64],[(0,.sc (.list [.str,.int .i64,.int .i64,.int .i64,.int .i64,.int .i64,.int .i64,.str])),(5,.sc (.list [.str,.int .i64,.int .i64,.int .i64,.int .i64,.int .i64,.int .i64,.str])),(6,.sc (.int .i64)),(7,.sc (.int .i64))],[]⟩ (fun ((list1,t,t1,t2):(List (Str×Int×Int×Int×Int×Int×Int×Str))×(List (Str×Int×Int×Int×Int×Int×Int×Str))×Int×Int)=>(t1-t2).toNat+1) 0 ⟨[.list [.str,.int .i64,.int .i64,.int .i64,.int .i64,.int .i64,.int .i64,.str]],[(0,.sc (.list [.str,.int .i64,.int .i64,.int .i64,.int .i64,.int .i64,.int .i64,.str]))],[]⟩ .u))) .u)) ZcY.S d=ZcY.S.F d:=fun _=>by kernel_rfl
theorem ZcY.sound:Zah Tryz.prog C0 30 ZcY.S:=sE Zbe ZcY.ev (Zai ⟨ZbZ.sound,Zc6.sound,Zb9.sound,trivial⟩) Tryz.func30
def ZbG.S:ZaR:=⟨0,[.sc (.list [.str])],[],[.list [.str]],⟨[.str],.sc .str,[]⟩,
 fun (locals:List Str)=>ZbG locals⟩
theorem ZbG.ev:∀d,Za9 C0 (hnd (tab [(64,Za6.S),(100,Zbs.S)])) Tryz.f54 (.seq .u (.seq .u (.seq .u (.seq (.seq .u (.blk (.loop ⟨[.list [.str],.str,.int .i64,.list [.str],.int .i64,.int .i64],[(0,.sc (.list [.str])),(3,.sc .str),(4,.sc (.int .i64)),(9,.sc (.list [.str])),(10,.sc (.int .i64)),(11,.sc (.int .i64))],[]⟩ (fun ((locals1,heads,at_,t,t1,t2):List Str×Str×Int×List Str×Int×Int)=>(t1-t2).toNat+1) 0 ⟨[.list [.str],.str,.int .i64],[(0,.sc (.list [.str])),(3,.sc .str),(4,.sc (.int .i64))],[]⟩ .u))) .u)))) ZbG.S d=ZbG.S.F d:=fun _=>by kernel_rfl
theorem ZbG.sound:Zah Tryz.prog C0 54 ZbG.S:=sE Zbe ZbG.ev (Zai ⟨Za6.sound,Zbs.sound,trivial⟩) Tryz.func54
def Zbx.S:ZaR:=⟨0,[.sc (.list [.str,.int .i64,.int .i64,.int .i64,.int .i64,.int .i64,.int .i64,.str])],[],[.list [.str,.int .i64,.int .i64,.int .i64,.int .i64,.int .i64,.int .i64,.str]],⟨[.str],.sc .str,[]⟩,
 fun (list:List (Str×Int×Int×Int×Int×Int×Int×Str))=>Zbx list⟩
theorem Zbx.ev:∀d,Za9 C0 (hnd (tab [(27,Zbt.S),(30,ZcY.S),(53,joinS.S),(54,ZbG.S)])) Tryz.f18 (.seq .u (.seq .u (.seq .u (.seq (.seq .u (.blk (.loop ⟨[.list [.str,.int .i64,.int .i64,.int .i64,.int .i64,.int .i64,.int .i64,.str],.int .i64,.int .i64,.list [.str]],[(3,.full 0),(10,.sc (.list [.str,.int .i64,.int .i64,.int .i64,.int .i64,.int .i64,.int .i64,.str])),(11,.sc (.int .i64)),(12,.sc (.int .i64))],[.arr [.str]]⟩ (fun ((t,t1,t2,locals):(List (Str×Int×Int×Int×Int×Int×Int×Str))×Int×Int×List Str)=>(t1-t2).toNat+1) 0 ⟨[.list [.str]],[(3,.full 0)],[.arr [.str]]⟩ .u))) .u)))) Zbx.S d=Zbx.S.F d:=fun _=>by kernel_rfl
theorem Zbx.sound:Zah Tryz.prog C0 18 Zbx.S:=sE Zbe Zbx.ev (Zai ⟨Zbt.sound,ZcY.sound,joinS.sound,ZbG.sound,trivial⟩) Tryz.func18
def ZbE.S:ZaR:=⟨0,[.sc .str],[],[.str],⟨[.bool,.list [.str,.int .i64,.int .i64,.int .i64,.int .i64,.int .i64,.int .i64,.str]],.tup [.full 0,.sc .bool],[.arr [.str,.int .i64,.int .i64,.int .i64,.int .i64,.int .i64,.int .i64,.str]]⟩,
 fun (text:Str)=>ZbE text⟩
theorem ZbE.ev:∀d,Za9 C0 (hnd (tab [(24,ZbM.S),(30,ZcY.S),(54,ZbG.S)])) Tryz.f29 (.seq .u (.seq .u (.seq .u (.seq .u (.seq (.blk (.loop ⟨[.str,.list [.str,.int .i64,.int .i64,.int .i64,.int .i64,.int .i64,.int .i64,.str],.list [.str]],[(4,.full 0),(5,.full 1),(6,.sc .str)],[.arr [.str,.int .i64,.int .i64,.int .i64,.int .i64,.int .i64,.int .i64,.str],.arr [.str]]⟩ (fun ((rest,out,locals):Str×(List (Str×Int×Int×Int×Int×Int×Int×Str))×List Str)=>(6-(out.length:Int)).toNat+1) 0 ⟨[.str,.list [.str,.int .i64,.int .i64,.int .i64,.int .i64,.int .i64,.int .i64,.str],.list [.str]],[(4,.full 0),(5,.full 1),(6,.sc .str)],[.arr [.str,.int .i64,.int .i64,.int .i64,.int .i64,.int .i64,.int .i64,.str],.arr [.str]]⟩ .u)) (.seq (.seq (.reg [.bool] [(45,.sc .bool)]) .u) .u)))))) ZbE.S d=ZbE.S.F d:=fun _=>by kernel_rfl
theorem ZbE.sound:Zah Tryz.prog C0 29 ZbE.S:=sE Zbe ZbE.ev (Zai ⟨ZbM.sound,ZcY.sound,ZbG.sound,trivial⟩) Tryz.func29
def ZfY.S:ZaR:=⟨0,[.sc (.int .i64)],[],[.int .i64],⟨[.str],.sc .str,[]⟩,
 fun (n:Int)=>ZfY n⟩
def ZfY.SF (k_:Nat):ZaR:=⟨0,[.sc (.int .i64)],[],[.int .i64],⟨[.str],.sc .str,[]⟩,
 fun (n:Int)=>Zsr k_ n⟩
theorem ZfY.ev (k_:Nat):∀d,Za9 C0 (hnd (tab [(131,ZfY.SF k_)])) Tryz.f131 .u (ZfY.SF (k_+1)) d=(ZfY.SF (k_+1)).F d:=fun _=>by kernel_rfl
theorem ZfY.soundF:∀k_:Nat,Zah Tryz.prog C0 131 (ZfY.SF k_)
 | 0=>⟨rfl,fun _ _ h=>by cases h⟩
 | k_+1=>Zac Zbe (Zai (l:=[(131,ZfY.SF k_)]) ⟨ZfY.soundF k_,trivial⟩) Tryz.func131 (by kernel_rfl) (by kernel_rfl) (by kernel_rfl) (ZfY.ev k_)
theorem ZfY.sound:Zah Tryz.prog C0 131 ZfY.S:=ZfY.soundF 30
def ZcJ.S:ZaR:=⟨0,[.sc (.int .i64)],[],[.int .i64],⟨[.int .i64],.sc (.int .i64),[]⟩,
 fun (n:Int)=>ZcJ n⟩
theorem ZcJ.ev:∀d,Za9 C0 (hnd (tab [])) Tryz.f235 (.seq .u (.seq .u (.seq (.blk (.loop ⟨[.int .i64,.int .i64],[(0,.sc (.int .i64)),(3,.sc (.int .i64))],[]⟩ (fun ((n1,out):Int×Int)=>(n1-0).toNat+1) 0 ⟨[.int .i64],[(3,.sc (.int .i64))],[]⟩ .u)) .u))) ZcJ.S d=ZcJ.S.F d:=fun _=>by kernel_rfl
theorem ZcJ.sound:Zah Tryz.prog C0 235 ZcJ.S:=sE Zbe ZcJ.ev (Zai trivial) Tryz.func235
def Zd0.S:ZaR:=⟨1,[.ptr 0 0,.sc (.int .i64),.sc (.int .i64)],[.box [.full 1,.sc (.int .i64),.sc (.int .i64)],.arr [.int .u8]],[.int .i64,.int .i64,.int .i64,.int .i64,.list [.int .u8]],⟨[.int .i64,.int .i64,.list [.int .u8]],.tup [],[.box [.full 1,.sc (.int .i64),.sc (.int .i64)],.arr [.int .u8]]⟩,
 fun ((num,bits,last,fill,text):Int×Int×Int×Int×List Int)=>Zd0 num bits last fill text⟩
theorem Zd0.ev:∀d,Za9 C0 (hnd (tab [(235,ZcJ.S)])) Tryz.f218 (.seq .u (.blk (.loop ⟨[.int .i64,.int .i64,.int .i64,.int .i64,.int .i64,.list [.int .u8]],[(0,.ptr 0 0),(1,.sc (.int .i64)),(2,.sc (.int .i64)),(6,.sc (.int .i64))],[.box [.full 1,.sc (.int .i64),.sc (.int .i64)],.arr [.int .u8]]⟩ (fun ((num1,bits1,k,o,o1,o2):Int×Int×Int×Int×Int×List Int)=>(bits1-k).toNat+1) 0 ⟨[.int .i64,.int .i64,.list [.int .u8]],[],[.box [.full 1,.sc (.int .i64),.sc (.int .i64)],.arr [.int .u8]]⟩ (.seq .u (.seq (.blk (.seq .u (.seq .u (.seq .u (.seq .u (.cond (.seq (.cm [(0,[1])]) .u) .u)))))) .u))))) Zd0.S d=Zd0.S.F d:=fun _=>by kernel_rfl
theorem Zd0.sound:Zah Tryz.prog C0 218 Zd0.S:=sE Zbe Zd0.ev (Zai ⟨ZcJ.sound,trivial⟩) Tryz.func218
def Zdx.S:ZaR:=⟨1,[.ptr 0 0],[.box [.full 1,.sc (.int .i64),.sc (.int .i64)],.arr [.int .u8]],[.int .i64,.int .i64,.list [.int .u8]],⟨[.int .i64,.int .i64,.list [.int .u8]],.tup [],[.box [.full 1,.sc (.int .i64),.sc (.int .i64)],.arr [.int .u8]]⟩,
 fun ((last,fill,text):Int×Int×List Int)=>Zdx last fill text⟩
theorem Zdx.ev:∀d,Za9 C0 (hnd (tab [(218,Zd0.S)])) Tryz.f219 .u Zdx.S d=Zdx.S.F d:=fun _=>by kernel_rfl
theorem Zdx.sound:Zah Tryz.prog C0 219 Zdx.S:=sE Zbe Zdx.ev (Zai ⟨Zd0.sound,trivial⟩) Tryz.func219
def Zji.S:ZaR:=⟨1,[.ptr 0 0],[.box [.sc .str,.sc (.int .i64),.sc .bool]],[.str,.int .i64,.bool],⟨[.int .i64,.str,.int .i64,.bool],.sc (.int .i64),[.box [.sc .str,.sc (.int .i64),.sc .bool]]⟩,
 fun ((s,at_,bad):Str×Int×Bool)=>Zji s at_ bad⟩
theorem Zji.ev:∀d,Za9 C0 (hnd (tab [(235,ZcJ.S)])) Tryz.f228 .u Zji.S d=Zji.S.F d:=fun _=>by kernel_rfl
theorem Zji.sound:Zah Tryz.prog C0 228 Zji.S:=sE Zbe Zji.ev (Zai ⟨ZcJ.sound,trivial⟩) Tryz.func228
def ZeR.S:ZaR:=⟨1,[.ptr 0 0,.sc (.int .i64)],[.box [.sc .str,.sc (.int .i64),.sc .bool]],[.int .i64,.str,.int .i64,.bool],⟨[.int .i64,.str,.int .i64,.bool],.sc (.int .i64),[.box [.sc .str,.sc (.int .i64),.sc .bool]]⟩,
 fun ((bits,s,at_,bad):Int×Str×Int×Bool)=>ZeR bits s at_ bad⟩
theorem ZeR.ev:∀d,Za9 C0 (hnd (tab [(228,Zji.S),(235,ZcJ.S)])) Tryz.f229 (.seq .u (.seq .u (.seq (.seq .u (.blk (.loop ⟨[.int .i64,.int .i64,.int .i64,.str,.int .i64,.bool],[(0,.ptr 0 0),(1,.sc (.int .i64)),(5,.sc (.int .i64)),(6,.sc (.int .i64))],[.box [.sc .str,.sc (.int .i64),.sc .bool]]⟩ (fun ((bits1,n,k,o,o1,o2):Int×Int×Int×Str×Int×Bool)=>(bits1-k).toNat+1) 0 ⟨[.int .i64,.str,.int .i64,.bool],[(5,.sc (.int .i64))],[.box [.sc .str,.sc (.int .i64),.sc .bool]]⟩ .u))) .u))) ZeR.S d=ZeR.S.F d:=fun _=>by kernel_rfl
theorem ZeR.sound:Zah Tryz.prog C0 229 ZeR.S:=sE Zbe ZeR.ev (Zai ⟨Zji.sound,ZcJ.sound,trivial⟩) Tryz.func229
def ZcL.S:ZaR:=⟨1,[.ptr 0 0],[.box [.sc .str,.sc (.int .i64),.sc .bool]],[.str,.int .i64,.bool],⟨[.bool,.str,.int .i64,.bool],.sc .bool,[.box [.sc .str,.sc (.int .i64),.sc .bool]]⟩,
 fun ((s,at_,bad):Str×Int×Bool)=>ZcL s at_ bad⟩
theorem ZcL.ev:∀d,Za9 C0 (hnd (tab [(228,Zji.S)])) Tryz.f208 (.seq .u (.seq .u (.seq (.blk (.loop ⟨[.int .i64,.str,.int .i64,.bool],[(0,.ptr 0 0),(3,.sc (.int .i64))],[.box [.sc .str,.sc (.int .i64),.sc .bool]]⟩ (fun ((n,o,o1,o2):Int×Str×Int×Bool)=>9) 0 ⟨[.int .i64,.str,.int .i64,.bool],[(3,.sc (.int .i64))],[.box [.sc .str,.sc (.int .i64),.sc .bool]]⟩ .u)) .u))) ZcL.S d=ZcL.S.F d:=fun _=>by kernel_rfl
theorem ZcL.sound:Zah Tryz.prog C0 208 ZcL.S:=sE Zbe ZcL.ev (Zai ⟨Zji.sound,trivial⟩) Tryz.func208
def Zc3.S:ZaR:=⟨0,[.sc (.int .i64),.sc (.int .i64)],[],[.int .i64,.int .i64],⟨[.int .i64],.sc (.int .i64),[]⟩,
 fun ((num,bits):Int×Int)=>Zc3 num bits⟩
theorem Zc3.ev:∀d,Za9 C0 (hnd (tab [])) Tryz.f255 (.seq .u (.seq .u (.seq (.seq .u (.blk (.loop ⟨[.int .i64,.int .i64,.int .i64,.int .i64],[(0,.sc (.int .i64)),(1,.sc (.int .i64)),(5,.sc (.int .i64)),(6,.sc (.int .i64))],[]⟩ (fun ((num1,bits1,n,k):Int×Int×Int×Int)=>(bits1-k).toNat+1) 0 ⟨[.int .i64],[(5,.sc (.int .i64))],[]⟩ .u))) .u))) Zc3.S d=Zc3.S.F d:=fun _=>by kernel_rfl
theorem Zc3.sound:Zah Tryz.prog C0 255 Zc3.S:=sE Zbe Zc3.ev (Zai trivial) Tryz.func255
def Zc2.S:ZaR:=⟨0,[.sc (.int .u32),.sc (.int .u8)],[],[.int .u32,.int .u8],⟨[.int .u32],.sc (.int .u32),[]⟩,
 fun ((c,b):Int×Int)=>Zc2 c b⟩
theorem Zc2.ev:∀d,Za9 C0 (hnd (tab [])) Tryz.f189 (.seq .u (.seq .u (.seq (.seq .u (.blk (.loop ⟨[.int .u32,.int .i64],[(0,.sc (.int .u32)),(5,.sc (.int .i64))],[]⟩ (fun ((c1,k):Int×Int)=>(8-k).toNat+1) 0 ⟨[.int .u32],[(0,.sc (.int .u32))],[]⟩ .u))) .u))) Zc2.S d=Zc2.S.F d:=fun _=>by kernel_rfl
theorem Zc2.sound:Zah Tryz.prog C0 189 Zc2.S:=sE Zbe Zc2.ev (Zai trivial) Tryz.func189
def Zc7.S:ZaR:=⟨0,[.sc (.int .u32),.sc .str],[],[.int .u32,.str],⟨[.int .u32],.sc (.int .u32),[]⟩,
 fun ((crc_,text):Int×Str)=>Zc7 crc_ text⟩
theorem Zc7.ev:∀d,Za9 C0 (hnd (tab [(189,Zc2.S)])) Tryz.f161 (.seq .u (.seq .u (.seq (.seq .u (.blk (.loop ⟨[.str,.int .u32,.int .i64],[(1,.sc .str),(5,.sc (.int .u32)),(6,.sc (.int .i64))],[]⟩ (fun ((text1,c,i):Str×Int×Int)=>((text1.length:Int)-i).toNat+1) 0 ⟨[.int .u32],[(5,.sc (.int .u32))],[]⟩ .u))) .u))) Zc7.S d=Zc7.S.F d:=fun _=>by kernel_rfl
theorem Zc7.sound:Zah Tryz.prog C0 161 Zc7.S:=sE Zbe Zc7.ev (Zai ⟨Zc2.sound,trivial⟩) Tryz.func161
def Zdn.S:ZaR:=⟨0,[.sc .str],[],[.str],⟨[.int .i64],.sc (.int .i64),[]⟩,
 fun (text:Str)=>Zdn text⟩
theorem Zdn.ev:∀d,Za9 C0 (hnd (tab [(161,Zc7.S)])) Tryz.f125 .u Zdn.S d=Zdn.S.F d:=fun _=>by kernel_rfl
theorem Zdn.sound:Zah Tryz.prog C0 125 Zdn.S:=sE Zbe Zdn.ev (Zai ⟨Zc7.sound,trivial⟩) Tryz.func125
def ZcD.S:ZaR:=⟨0,[.sc (.list [.int .i64])],[],[.list [.int .i64]],⟨[.int .i64],.sc (.int .i64),[]⟩,
 fun (lens:List Int)=>ZcD lens⟩
theorem ZcD.ev:∀d,Za9 C0 (hnd (tab [])) Tryz.f243 (.seq .u (.seq .u (.seq (.seq .u (.blk (.loop ⟨[.list [.int .i64],.int .i64,.int .i64],[(0,.sc (.list [.int .i64])),(3,.sc (.int .i64)),(4,.sc (.int .i64))],[]⟩ (fun ((lens1,n,i):List Int×Int×Int)=>((lens1.length:Int)-i).toNat+1) 0 ⟨[.int .i64],[(3,.sc (.int .i64))],[]⟩ .u))) .u))) ZcD.S d=ZcD.S.F d:=fun _=>by kernel_rfl
theorem ZcD.sound:Zah Tryz.prog C0 243 ZcD.S:=sE Zbe ZcD.ev (Zai trivial) Tryz.func243
def ZaN.S:ZaR:=⟨0,[.sc (.list [.int .i64])],[],[.list [.int .i64]],⟨[.bool],.sc .bool,[]⟩,
 fun (lens:List Int)=>ZaN lens⟩
theorem ZaN.ev:∀d,Za9 C0 (hnd (tab [(88,ZgY.S),(235,ZcJ.S),(243,ZcD.S)])) Tryz.f249 (.seq .u (.seq .u (.seq (.seq .u (.blk (.loopS ⟨[.list [.int .i64],.int .i64,.int .i64],[(0,.sc (.list [.int .i64])),(3,.sc (.int .i64)),(4,.sc (.int .i64))],[]⟩ (fun ((lens1,sum,i):List Int×Int×Int)=>((lens1.length:Int)-i).toNat+1) 0 ⟨[.list [.int .i64],.int .i64],[(0,.sc (.list [.int .i64])),(3,.sc (.int .i64))],[]⟩ .u))) (.seq (.reg [.bool] [(5,.sc .bool)]) (.seq (.reg [.bool] [(2,.sc .bool)]) .u))))) ZaN.S d=ZaN.S.F d:=fun _=>by kernel_rfl
theorem ZaN.sound:Zah Tryz.prog C0 249 ZaN.S:=sE Zbe ZaN.ev (Zai ⟨ZgY.sound,ZcJ.sound,ZcD.sound,trivial⟩) Tryz.func249
end Ev
end
section
open Go Go.Proofs
set_option maxRecDepth 100000
namespace Ev
set_option maxHeartbeats 1000000
def ZaL.S:ZaR:=⟨0,[.sc (.list [.int .i64])],[],[.list [.int .i64]],⟨[.list [.int .i64]],.full 0,[.arr [.int .i64]]⟩,
 fun (lens:List Int)=>ZaL lens⟩
theorem ZaL.ev:∀d,Za9 C0 (hnd (tab [])) Tryz.f236 (.seq .u (.seq .u (.seq .u (.seq (.seq .u (.blk (.loop ⟨[.list [.int .i64],.int .i64,.int .i64,.list [.int .i64]],[(0,.sc (.list [.int .i64])),(3,.full 0),(4,.sc (.int .i64)),(5,.sc (.int .i64))],[.arr [.int .i64]]⟩ (fun ((lens1,code_,n,out):List Int×Int×Int×List Int)=>(15-n).toNat+2) 0 ⟨[.list [.int .i64]],[(3,.full 0)],[.arr [.int .i64]]⟩ (.seq .u (.seq (.blk (.seq (.seq .u (.blk (.loop ⟨[.list [.int .i64],.int .i64,.int .i64,.int .i64,.list [.int .i64]],[(0,.sc (.list [.int .i64])),(3,.full 0),(4,.sc (.int .i64)),(5,.sc (.int .i64)),(6,.sc (.int .i64))],[.arr [.int .i64]]⟩ (fun ((lens2,code_1,n1,i,out1):List Int×Int×Int×Int×List Int)=>((lens2.length:Int)-i).toNat+1) 2 ⟨[.list [.int .i64],.int .i64,.int .i64,.list [.int .i64]],[(0,.sc (.list [.int .i64])),(3,.full 0),(4,.sc (.int .i64)),(5,.sc (.int .i64))],[.arr [.int .i64]]⟩ .u))) .u)) .u))))) .u)))) ZaL.S d=ZaL.S.F d:=fun _=>by kernel_rfl
theorem ZaL.sound:Zah Tryz.prog C0 236 ZaL.S:=sE Zbe ZaL.ev (Zai trivial) Tryz.func236
def Zb3.S:ZaR:=⟨0,[.sc (.list [.int .i64,.int .i64,.ints .i64])],[],[.list [.int .i64,.int .i64,.ints .i64]],⟨[.int .i64],.sc (.int .i64),[]⟩,
 fun (list:List (Int×Int×List Int))=>Zb3 list⟩
theorem Zb3.ev:∀d,Za9 C0 (hnd (tab [])) Tryz.f252 (.seq .u (.seq .u (.seq (.seq .u (.blk (.loop ⟨[.list [.int .i64,.int .i64,.ints .i64],.int .i64,.int .i64],[(0,.sc (.list [.int .i64,.int .i64,.ints .i64])),(3,.sc (.int .i64)),(4,.sc (.int .i64))],[]⟩ (fun ((list1,at_,i):(List (Int×Int×List Int))×Int×Int)=>((list1.length:Int)-i).toNat+1) 0 ⟨[.int .i64],[(3,.sc (.int .i64))],[]⟩ (.seq .u (.seq (.blk (.seq (.reg [.bool] [(47,.sc .bool)]) .u)) .u))))) .u))) Zb3.S d=Zb3.S.F d:=fun _=>by kernel_rfl
theorem Zb3.sound:Zah Tryz.prog C0 252 Zb3.S:=sE Zbe Zb3.ev (Zai trivial) Tryz.func252
def Zfp.S:ZaR:=⟨0,[.sc (.list [.int .i64,.int .i64,.ints .i64]),.sc (.int .i64)],[],[.list [.int .i64,.int .i64,.ints .i64],.int .i64],⟨[.list [.int .i64,.int .i64,.ints .i64]],.full 0,[.arr [.int .i64,.int .i64,.ints .i64]]⟩,
 fun ((list,at_):(List (Int×Int×List Int))×Int)=>Zfp list at_⟩
theorem Zfp.ev:∀d,Za9 C0 (hnd (tab [])) Tryz.f253 .u Zfp.S d=Zfp.S.F d:=fun _=>by kernel_rfl
theorem Zfp.sound:Zah Tryz.prog C0 253 Zfp.S:=sE Zbe Zfp.ev (Zai trivial) Tryz.func253
def Zbc.S:ZaR:=⟨0,[.sc (.list [.int .i64])],[],[.list [.int .i64]],⟨[.list [.int .i64]],.full 0,[.arr [.int .i64]]⟩,
 fun (counts:List Int)=>Zbc counts⟩
theorem Zbc.ev:∀d,Za9 C0 (hnd (tab [(252,Zb3.S),(253,Zfp.S)])) Tryz.f244 (.seq .u (.seq .u (.seq .u (.seq (.seq .u (.blk (.loop ⟨[.list [.int .i64],.int .i64,.list [.int .i64],.list [.int .i64,.int .i64,.ints .i64]],[(0,.sc (.list [.int .i64])),(3,.full 0),(4,.full 1),(5,.sc (.int .i64))],[.arr [.int .i64],.arr [.int .i64,.int .i64,.ints .i64]]⟩ (fun ((counts1,i,out,list):List Int×Int×List Int×List (Int×Int×List Int))=>((counts1.length:Int)-i).toNat+1) 0 ⟨[.list [.int .i64],.list [.int .i64,.int .i64,.ints .i64]],[(3,.full 0),(4,.full 1)],[.arr [.int .i64],.arr [.int .i64,.int .i64,.ints .i64]]⟩ .u))) (.join ⟨[.list [.int .i64],.list [.int .i64,.int .i64,.ints .i64]],[(3,.full 0),(4,.full 1)],[.arr [.int .i64],.arr [.int .i64,.int .i64,.ints .i64]]⟩ .u (.seq (.blk (.loop ⟨[.list [.int .i64],.list [.int .i64,.int .i64,.ints .i64]],[(3,.full 0),(4,.full 1)],[.arr [.int .i64],.arr [.int .i64,.int .i64,.ints .i64]]⟩ (fun ((out3,list3):List Int×List (Int×Int×List Int))=>((list3.length:Int)-1).toNat+1) 2 ⟨[.list [.int .i64]],[(3,.full 0)],[.arr [.int .i64]]⟩ (.seq .u (.blk (.seq .u (.seq .u (.seq .u (.seq .u (.seq .u (.seq .u (.seq .u (.join ⟨[.int .i64,.list [.int .i64],.list [.int .i64,.int .i64,.ints .i64],.int .i64,.int .i64,.list [.int .i64],.int .i64,.int .i64,.list [.int .i64]],[(3,.full 0),(4,.full 1),(7,.ptr 2 0),(8,.ptr 3 0),(9,.sc (.int .i64))],[.arr [.int .i64],.arr [.int .i64,.int .i64,.ints .i64],.box [.sc (.int .i64),.sc (.int .i64),.sc (.list [.int .i64])],.box [.sc (.int .i64),.sc (.int .i64),.sc (.list [.int .i64])]]⟩ .u (.seq .u (.seq (.seq .u (.blk (.loop ⟨[.int .i64,.int .i64,.list [.int .i64],.list [.int .i64,.int .i64,.ints .i64],.int .i64,.int .i64,.list [.int .i64],.int .i64,.int .i64,.list [.int .i64],.list [.int .i64]],[(3,.full 0),(4,.full 1),(7,.ptr 2 0),(8,.ptr 3 0),(9,.sc (.int .i64)),(10,.full 4),(11,.sc (.int .i64))],[.arr [.int .i64],.arr [.int .i64,.int .i64,.ints .i64],.box [.sc (.int .i64),.sc (.int .i64),.sc (.list [.int .i64])],.box [.sc (.int .i64),.sc (.int .i64),.sc (.list [.int .i64])],.arr [.int .i64]]⟩ (fun ((first1,i1,out5,list5,o6,o7,o8,o9,o10,o11,syms):Int×Int×List Int×(List (Int×Int×List Int))×Int×Int×List Int×Int×Int×List Int×List Int)=>((syms.length:Int)-i1).toNat+1) 4 ⟨[.int .i64,.list [.int .i64],.list [.int .i64,.int .i64,.ints .i64],.int .i64,.int .i64,.list [.int .i64],.int .i64,.int .i64,.list [.int .i64],.list [.int .i64]],[(3,.full 0),(4,.full 1),(7,.ptr 2 0),(8,.ptr 3 0),(9,.sc (.int .i64)),(10,.full 4)],[.arr [.int .i64],.arr [.int .i64,.int .i64,.ints .i64],.box [.sc (.int .i64),.sc (.int .i64),.sc (.list [.int .i64])],.box [.sc (.int .i64),.sc (.int .i64),.sc (.list [.int .i64])],.arr [.int .i64]]⟩ .u))) .u)))))))))))))) .u)))))) Zbc.S d=Zbc.S.F d:=fun _=>by kernel_rfl
theorem Zbc.sound:Zah Tryz.prog C0 244 Zbc.S:=sE Zbe Zbc.ev (Zai ⟨Zb3.sound,Zfp.sound,trivial⟩) Tryz.func244
def Zc1.S:ZaR:=⟨0,[.sc (.list [.int .i64])],[],[.list [.int .i64]],⟨[.int .i64],.sc (.int .i64),[]⟩,
 fun (lens:List Int)=>Zc1 lens⟩
theorem Zc1.ev:∀d,Za9 C0 (hnd (tab [])) Tryz.f245 (.seq .u (.seq .u (.seq (.seq .u (.blk (.loop ⟨[.list [.int .i64],.int .i64,.int .i64],[(0,.sc (.list [.int .i64])),(3,.sc (.int .i64)),(4,.sc (.int .i64))],[]⟩ (fun ((lens1,n,i):List Int×Int×Int)=>((lens1.length:Int)-i).toNat+1) 0 ⟨[.int .i64],[(3,.sc (.int .i64))],[]⟩ .u))) .u))) Zc1.S d=Zc1.S.F d:=fun _=>by kernel_rfl
theorem Zc1.sound:Zah Tryz.prog C0 245 Zc1.S:=sE Zbe Zc1.ev (Zai trivial) Tryz.func245
def ZcO.S:ZaR:=⟨0,[.sc (.list [.int .i64]),.sc (.int .i64)],[],[.list [.int .i64],.int .i64],⟨[.list [.int .i64]],.full 0,[.arr [.int .i64]]⟩,
 fun ((counts,most):List Int×Int)=>ZcO counts most⟩
theorem ZcO.ev:∀d,Za9 C0 (hnd (tab [(244,Zbc.S),(245,Zc1.S)])) Tryz.f226 (.seq .u (.seq .u (.seq .u (.seq (.blk (.loop ⟨[.int .i64,.list [.int .i64],.list [.int .i64]],[(1,.sc (.int .i64)),(5,.full 0),(6,.full 1)],[.arr [.int .i64],.arr [.int .i64]]⟩ (fun ((most1,list,out):Int×List Int×List Int)=>100000) 0 ⟨[.list [.int .i64]],[(6,.full 0)],[.arr [.int .i64]]⟩ (.seq .u (.blk (.seq (.seq .u (.blk (.loop ⟨[.int .i64,.int .i64,.list [.int .i64]],[(1,.sc (.int .i64)),(5,.full 0),(7,.sc (.int .i64))],[.arr [.int .i64]]⟩ (fun ((most2,i,list1):Int×Int×List Int)=>((list1.length:Int)-i).toNat+1) 2 ⟨[.int .i64,.list [.int .i64]],[(1,.sc (.int .i64)),(5,.full 0)],[.arr [.int .i64]]⟩ .u))) .u))))) .u)))) ZcO.S d=ZcO.S.F d:=fun _=>by kernel_rfl
theorem ZcO.sound:Zah Tryz.prog C0 226 ZcO.S:=sE Zbe ZcO.ev (Zai ⟨Zbc.sound,Zc1.sound,trivial⟩) Tryz.func226
def Zev.S:ZaR:=⟨0,[.sc (.list [.int .i64]),.sc (.list [.int .i64]),.sc (.int .i64)],[],[.list [.int .i64],.list [.int .i64],.int .i64],⟨[.int .i64,.int .i64],.agg [.sc (.int .i64),.sc (.int .i64)],[]⟩,
 fun ((lens,codes_,sym):List Int×List Int×Int)=>Zev lens codes_ sym⟩
theorem Zev.ev:∀d,Za9 C0 (hnd (tab [(255,Zc3.S)])) Tryz.f251 .u Zev.S d=Zev.S.F d:=fun _=>by kernel_rfl
theorem Zev.sound:Zah Tryz.prog C0 251 Zev.S:=sE Zbe Zev.ev (Zai ⟨Zc3.sound,trivial⟩) Tryz.func251
def ZaS.S:ZaR:=⟨1,[.ptr 0 0,.sc (.list [.int .i64]),.sc (.list [.int .i64])],[.box [.sc .str,.sc (.int .i64),.sc .bool]],[.list [.int .i64],.list [.int .i64],.str,.int .i64,.bool],⟨[.int .i64,.str,.int .i64,.bool],.sc (.int .i64),[.box [.sc .str,.sc (.int .i64),.sc .bool]]⟩,
 fun ((lens,codes_,s,at_,bad):List Int×List Int×Str×Int×Bool)=>ZaS lens codes_ s at_ bad⟩
theorem ZaS.ev:∀d,Za9 C0 (hnd (tab [(228,Zji.S)])) Tryz.f247 (.seq .u (.seq .u (.seq (.seq .u (.blk (.loopS ⟨[.list [.int .i64],.list [.int .i64],.int .i64,.int .i64,.str,.int .i64,.bool],[(0,.ptr 0 0),(1,.sc (.list [.int .i64])),(2,.sc (.list [.int .i64])),(7,.sc (.int .i64)),(8,.sc (.int .i64))],[.box [.sc .str,.sc (.int .i64),.sc .bool]]⟩ (fun ((lens1,codes_1,code_,n,o,o1,o2):List Int×List Int×Int×Int×Str×Int×Bool)=>(15-n).toNat+2) 0 ⟨[.str,.int .i64,.bool],[(0,.ptr 0 0)],[.box [.sc .str,.sc (.int .i64),.sc .bool]]⟩ (.seq (.seq (.reg [.bool] [(18,.sc .bool)]) .u) (.seq (.blk (.seq .u (.seq .u (.blk (.loopS ⟨[.list [.int .i64],.list [.int .i64],.int .i64,.int .i64,.int .i64,.str,.int .i64,.bool],[(0,.ptr 0 0),(1,.sc (.list [.int .i64])),(2,.sc (.list [.int .i64])),(7,.sc (.int .i64)),(8,.sc (.int .i64)),(9,.sc (.int .i64))],[.box [.sc .str,.sc (.int .i64),.sc .bool]]⟩ (fun ((lens2,codes_2,code_1,n1,i,o3,o4,o5):List Int×List Int×Int×Int×Int×Str×Int×Bool)=>((lens2.length:Int)-i).toNat+1) 2 ⟨[.list [.int .i64],.list [.int .i64],.int .i64,.int .i64,.str,.int .i64,.bool],[(0,.ptr 0 0),(1,.sc (.list [.int .i64])),(2,.sc (.list [.int .i64])),(7,.sc (.int .i64)),(8,.sc (.int .i64))],[.box [.sc .str,.sc (.int .i64),.sc .bool]]⟩ (.seq .u (.seq (.blk (.seq (.reg [.bool] [(45,.sc .bool)]) .u)) .u))))))) .u))))) .u))) ZaS.S d=ZaS.S.F d:=fun _=>by kernel_rfl
theorem ZaS.sound:Zah Tryz.prog C0 247 ZaS.S:=sE Zbe ZaS.ev (Zai ⟨Zji.sound,trivial⟩) Tryz.func247
def Zeu.S:ZaR:=⟨0,[.full 0,.agg [.sc (.int .i64),.sc (.int .i64),.sc (.int .i64)]],[.arr [.int .u8]],[.int .i64,.int .i64,.int .i64,.list [.int .u8]],⟨[.bool,.list [.int .u8]],.tup [.full 0,.sc .bool],[.arr [.int .u8]]⟩,
 fun ((byte,long,back,text):Int×Int×Int×List Int)=>Zeu byte long back text⟩
theorem Zeu.ev:∀d,Za9 C0 (hnd (tab [(88,ZgY.S)])) Tryz.f254 (.seq .u (.seq .u (.seq (.seq (.reg [.bool] [(45,.sc .bool)]) .u) (.seq (.seq .u (.blk (.loop ⟨[.int .i64,.list [.int .u8],.int .i64,.int .i64,.int .i64],[(0,.full 0),(3,.ptr 1 0),(6,.sc (.int .i64))],[.arr [.int .u8],.box [.sc (.int .i64),.sc (.int .i64),.sc (.int .i64)]]⟩ (fun ((i,text1,o,o1,o2):Int×List Int×Int×Int×Int)=>(o1-i).toNat+1) 0 ⟨[.list [.int .u8]],[(0,.full 0)],[.arr [.int .u8]]⟩ .u))) .u)))) Zeu.S d=Zeu.S.F d:=fun _=>by kernel_rfl
theorem Zeu.sound:Zah Tryz.prog C0 254 Zeu.S:=sE Zbe Zeu.ev (Zai ⟨ZgY.sound,trivial⟩) Tryz.func254
def Zcb.S:ZaR:=⟨0,[.sc .str,.sc (.int .i64),.sc (.int .i64)],[],[.str,.int .i64,.int .i64],⟨[.int .i64],.sc (.int .i64),[]⟩,
 fun ((text,at_,back):Str×Int×Int)=>Zcb text at_ back⟩
theorem Zcb.ev:∀d,Za9 C0 (hnd (tab [])) Tryz.f242 (.seq .u (.seq .u (.seq (.blk (.loop ⟨[.str,.int .i64,.int .i64,.int .i64],[(0,.sc .str),(1,.sc (.int .i64)),(2,.sc (.int .i64)),(7,.sc (.int .i64))],[]⟩ (fun ((text1,at_1,back1,n):Str×Int×Int×Int)=>62) 0 ⟨[.int .i64],[(7,.sc (.int .i64))],[]⟩ (.seq (.seq (.reg [.bool] [(32,.sc .bool)]) .u) .u))) .u))) Zcb.S d=Zcb.S.F d:=fun _=>by kernel_rfl
theorem Zcb.sound:Zah Tryz.prog C0 242 Zcb.S:=sE Zbe Zcb.ev (Zai trivial) Tryz.func242
def ZaH.S:ZaR:=⟨0,[.sc .str],[],[.str],⟨[.list [.int .i64,.int .i64,.int .i64]],.full 0,[.arr [.int .i64,.int .i64,.int .i64]]⟩,
 fun (text:Str)=>ZaH text⟩
theorem ZaH.ev:∀d,Za9 C0 (hnd (tab [(242,Zcb.S)])) Tryz.f221 (.seq .u (.seq .u (.seq (.seq .u (.blk (.loop ⟨[.str,.int .i64,.list [.int .i64,.int .i64,.int .i64]],[(0,.sc .str),(3,.full 0),(4,.sc (.int .i64))],[.arr [.int .i64,.int .i64,.int .i64]]⟩ (fun ((text1,at_,out):Str×Int×List (Int×Int×Int))=>((text1.length:Int)-at_).toNat+1) 0 ⟨[.list [.int .i64,.int .i64,.int .i64]],[(3,.full 0)],[.arr [.int .i64,.int .i64,.int .i64]]⟩ (.seq .u (.blk (.seq .u (.seq .u (.seq (.seq .u (.blk (.loop ⟨[.str,.int .i64,.int .i64,.int .i64,.int .i64,.list [.int .i64,.int .i64,.int .i64]],[(0,.sc .str),(3,.full 0),(4,.sc (.int .i64)),(5,.sc (.int .i64)),(6,.sc (.int .i64)),(7,.sc (.int .i64))],[.arr [.int .i64,.int .i64,.int .i64]]⟩ (fun ((text2,at_1,long,far,back,out1):Str×Int×Int×Int×Int×List (Int×Int×Int))=>(250-back).toNat+2) 2 ⟨[.str,.int .i64,.int .i64,.int .i64,.list [.int .i64,.int .i64,.int .i64]],[(0,.sc .str),(3,.full 0),(4,.sc (.int .i64)),(5,.sc (.int .i64)),(6,.sc (.int .i64))],[.arr [.int .i64,.int .i64,.int .i64]]⟩ (.seq (.seq (.reg [.bool] [(20,.sc .bool)]) .u) .u)))) .u)))))))) .u))) ZaH.S d=ZaH.S.F d:=fun _=>by kernel_rfl
theorem ZaH.sound:Zah Tryz.prog C0 221 ZaH.S:=sE Zbe ZaH.ev (Zai ⟨Zcb.sound,trivial⟩) Tryz.func221
def ZcN.S:ZaR:=⟨0,[.sc (.list [.int .i64]),.sc (.int .i64)],[],[.list [.int .i64],.int .i64],⟨[.list [.int .i64]],.full 0,[.arr [.int .i64]]⟩,
 fun ((extra,from_):List Int×Int)=>ZcN extra from_⟩
theorem ZcN.ev:∀d,Za9 C0 (hnd (tab [(235,ZcJ.S)])) Tryz.f237 (.seq .u (.seq .u (.seq (.seq .u (.blk (.loop ⟨[.list [.int .i64],.int .i64,.int .i64,.list [.int .i64]],[(0,.sc (.list [.int .i64])),(1,.sc (.int .i64)),(5,.full 0),(6,.sc (.int .i64))],[.arr [.int .i64]]⟩ (fun ((extra1,from_1,i,out):List Int×Int×Int×List Int)=>((extra1.length:Int)-i).toNat+1) 0 ⟨[.list [.int .i64]],[(5,.full 0)],[.arr [.int .i64]]⟩ .u))) .u))) ZcN.S d=ZcN.S.F d:=fun _=>by kernel_rfl
theorem ZcN.sound:Zah Tryz.prog C0 237 ZcN.S:=sE Zbe ZcN.ev (Zai ⟨ZcJ.sound,trivial⟩) Tryz.func237
def Za7.S:ZaR:=⟨0,[],[],[],⟨[.list [.int .i64]],.full 0,[.arr [.int .i64]]⟩,
 fun (_:Unit)=>Za7⟩
theorem Za7.ev:∀d,Za9 C0 (hnd (tab [])) Tryz.f238 .u Za7.S d=Za7.S.F d:=fun _=>by kernel_rfl
theorem Za7.sound:Zah Tryz.prog C0 238 Za7.S:=sE Zbe Za7.ev (Zai trivial) Tryz.func238
def Za8.S:ZaR:=⟨0,[],[],[],⟨[.list [.int .i64]],.full 0,[.arr [.int .i64]]⟩,
 fun (_:Unit)=>Za8⟩
theorem Za8.ev:∀d,Za9 C0 (hnd (tab [])) Tryz.f239 .u Za8.S d=Za8.S.F d:=fun _=>by kernel_rfl
theorem Za8.sound:Zah Tryz.prog C0 239 Za8.S:=sE Zbe Za8.ev (Zai trivial) Tryz.func239
def ZeL.S:ZaR:=⟨0,[.sc (.list [.int .i64]),.sc (.int .i64)],[],[.list [.int .i64],.int .i64],⟨[.int .i64],.sc (.int .i64),[]⟩,
 fun ((base,n):List Int×Int)=>ZeL base n⟩
theorem ZeL.ev:∀d,Za9 C0 (hnd (tab [])) Tryz.f241 (.seq .u (.seq .u (.seq (.blk (.loop ⟨[.list [.int .i64],.int .i64,.int .i64],[(0,.sc (.list [.int .i64])),(1,.sc (.int .i64)),(5,.sc (.int .i64))],[]⟩ (fun ((base1,n1,k):List Int×Int×Int)=>(base1.length:Int).toNat+1) 0 ⟨[.int .i64],[(5,.sc (.int .i64))],[]⟩ (.seq (.seq (.reg [.bool] [(19,.sc .bool)]) .u) .u))) .u))) ZeL.S d=ZeL.S.F d:=fun _=>by kernel_rfl
theorem ZeL.sound:Zah Tryz.prog C0 241 ZeL.S:=sE Zbe ZeL.ev (Zai trivial) Tryz.func241
def ZcS.S:ZaR:=⟨0,[],[],[],⟨[.list [.int .i64]],.full 0,[.arr [.int .i64]]⟩,
 fun (_:Unit)=>ZcS⟩
theorem ZcS.ev:∀d,Za9 C0 (hnd (tab [])) Tryz.f222 (.seq .u (.seq .u (.seq (.seq .u (.blk (.loop ⟨[.int .i64,.list [.int .i64]],[(1,.full 0),(2,.sc (.int .i64))],[.arr [.int .i64]]⟩ (fun ((i,out):Int×List Int)=>(288-i).toNat+1) 0 ⟨[.list [.int .i64]],[(1,.full 0)],[.arr [.int .i64]]⟩ .u))) .u))) ZcS.S d=ZcS.S.F d:=fun _=>by kernel_rfl
theorem ZcS.sound:Zah Tryz.prog C0 222 ZcS.S:=sE Zbe ZcS.ev (Zai trivial) Tryz.func222
def ZcT.S:ZaR:=⟨0,[],[],[],⟨[.list [.int .i64]],.full 0,[.arr [.int .i64]]⟩,
 fun (_:Unit)=>ZcT⟩
theorem ZcT.ev:∀d,Za9 C0 (hnd (tab [])) Tryz.f223 (.seq .u (.seq .u (.seq (.seq .u (.blk (.loop ⟨[.int .i64,.list [.int .i64]],[(1,.full 0),(2,.sc (.int .i64))],[.arr [.int .i64]]⟩ (fun ((i,out):Int×List Int)=>(32-i).toNat+1) 0 ⟨[.list [.int .i64]],[(1,.full 0)],[.arr [.int .i64]]⟩ .u))) .u))) ZcT.S d=ZcT.S.F d:=fun _=>by kernel_rfl
theorem ZcT.sound:Zah Tryz.prog C0 223 ZcT.S:=sE Zbe ZcT.ev (Zai trivial) Tryz.func223
def ZmC.S:ZaR:=⟨1,[.ptr 0 0,.sc (.list [.int .i64]),.sc (.list [.int .i64]),.sc (.int .i64)],[.box [.full 1,.sc (.int .i64),.sc (.int .i64)],.arr [.int .u8]],[.list [.int .i64],.list [.int .i64],.int .i64,.int .i64,.int .i64,.list [.int .u8]],⟨[.int .i64,.int .i64,.list [.int .u8]],.tup [],[.box [.full 1,.sc (.int .i64),.sc (.int .i64)],.arr [.int .u8]]⟩,
 fun ((lens,codes_,sym,last,fill,text):List Int×List Int×Int×Int×Int×List Int)=>ZmC lens codes_ sym last fill text⟩
theorem ZmC.ev:∀d,Za9 C0 (hnd (tab [(218,Zd0.S),(251,Zev.S)])) Tryz.f240 .u ZmC.S d=ZmC.S.F d:=fun _=>by kernel_rfl
theorem ZmC.sound:Zah Tryz.prog C0 240 ZmC.S:=sE Zbe ZmC.ev (Zai ⟨Zd0.sound,Zev.sound,trivial⟩) Tryz.func240
def ZbJ.S:ZaR:=⟨1,[.ptr 0 0,.sc (.list [.int .i64,.int .i64,.int .i64]),.sc (.list [.int .i64]),.sc (.list [.int .i64])],[.box [.full 1,.sc (.int .i64),.sc (.int .i64)],.arr [.int .u8]],[.list [.int .i64,.int .i64,.int .i64],.list [.int .i64],.list [.int .i64],.int .i64,.int .i64,.list [.int .u8]],⟨[.int .i64,.int .i64,.list [.int .u8]],.tup [],[.box [.full 1,.sc (.int .i64),.sc (.int .i64)],.arr [.int .u8]]⟩,
 fun ((list,longs,backs,last,fill,text):(List (Int×Int×Int))×List Int×List Int×Int×Int×List Int)=>ZbJ list longs backs last fill text⟩
theorem ZbJ.ev:∀d,Za9 C0 (hnd (tab [(218,Zd0.S),(236,ZaL.S),(237,ZcN.S),(238,Za7.S),(239,Za8.S),(240,ZmC.S),(241,ZeL.S)])) Tryz.f220 (.seq .u (.seq .u (.seq .u (.seq .u (.seq (.seq .u (.blk (.loop ⟨[.list [.int .i64,.int .i64,.int .i64],.list [.int .i64],.list [.int .i64],.int .i64,.int .i64,.int .i64,.list [.int .i64],.list [.int .i64],.list [.int .i64],.list [.int .i64],.list [.int .u8]],[(0,.ptr 0 0),(1,.sc (.list [.int .i64,.int .i64,.int .i64])),(2,.sc (.list [.int .i64])),(3,.sc (.list [.int .i64])),(8,.full 1),(9,.full 2),(10,.full 3),(11,.full 4),(12,.sc (.int .i64))],[.box [.full 5,.sc (.int .i64),.sc (.int .i64)],.arr [.int .i64],.arr [.int .i64],.arr [.int .i64],.arr [.int .i64],.arr [.int .u8]]⟩ (fun ((list1,longs1,backs1,i,o,o1,a,b,long,back,o2):(List (Int×Int×Int))×List Int×List Int×Int×Int×Int×List Int×List Int×List Int×List Int×List Int)=>((list1.length:Int)-i).toNat+1) 0 ⟨[.list [.int .i64],.int .i64,.int .i64,.list [.int .i64],.list [.int .u8]],[(0,.ptr 0 0),(2,.sc (.list [.int .i64])),(8,.full 1)],[.box [.full 2,.sc (.int .i64),.sc (.int .i64)],.arr [.int .i64],.arr [.int .u8]]⟩ .u))) .u))))) ZbJ.S d=ZbJ.S.F d:=fun _=>by kernel_rfl
theorem ZbJ.sound:Zah Tryz.prog C0 220 ZbJ.S:=sE Zbe ZbJ.ev (Zai ⟨Zd0.sound,ZaL.sound,ZcN.sound,Za7.sound,Za8.sound,ZmC.sound,ZeL.sound,trivial⟩) Tryz.func220
def Zeb.S:ZaR:=⟨0,[.sc .str],[],[.str],⟨[.str],.sc .str,[]⟩,
 fun (text:Str)=>Zeb text⟩
theorem Zeb.ev:∀d,Za9 C0 (hnd (tab [(218,Zd0.S),(219,Zdx.S)])) Tryz.f204 .u Zeb.S d=Zeb.S.F d:=fun _=>by kernel_rfl
theorem Zeb.sound:Zah Tryz.prog C0 204 Zeb.S:=sE Zbe Zeb.ev (Zai ⟨Zd0.sound,Zdx.sound,trivial⟩) Tryz.func204
def Zec.S:ZaR:=⟨0,[.sc .str],[],[.str],⟨[.str],.sc .str,[]⟩,
 fun (text:Str)=>Zec text⟩
theorem Zec.ev:∀d,Za9 C0 (hnd (tab [(218,Zd0.S),(219,Zdx.S),(220,ZbJ.S),(221,ZaH.S),(222,ZcS.S),(223,ZcT.S)])) Tryz.f205 .u Zec.S d=Zec.S.F d:=fun _=>by kernel_rfl
theorem Zec.sound:Zah Tryz.prog C0 205 Zec.S:=sE Zbe Zec.ev (Zai ⟨Zd0.sound,Zdx.sound,ZbJ.sound,ZaH.sound,ZcS.sound,ZcT.sound,trivial⟩) Tryz.func205
def Zbu.S:ZaR:=⟨0,[.sc (.list [.int .i64,.int .i64,.int .i64])],[],[.list [.int .i64,.int .i64,.int .i64]],⟨[.list [.int .i64],.list [.int .i64]],.tup [.full 0,.full 1],[.arr [.int .i64],.arr [.int .i64]]⟩,
 fun (list:List (Int×Int×Int))=>Zbu list⟩
theorem Zbu.ev:∀d,Za9 C0 (hnd (tab [(237,ZcN.S),(238,Za7.S),(239,Za8.S),(241,ZeL.S),(243,ZcD.S)])) Tryz.f224 (.seq .u (.seq .u (.seq .u (.seq .u (.seq .u (.seq .u (.seq (.seq .u (.blk (.loop ⟨[.list [.int .i64,.int .i64,.int .i64],.int .i64,.list [.int .i64],.list [.int .i64],.list [.int .i64],.list [.int .i64]],[(0,.sc (.list [.int .i64,.int .i64,.int .i64])),(4,.full 0),(5,.full 1),(6,.full 2),(7,.full 3),(8,.sc (.int .i64))],[.arr [.int .i64],.arr [.int .i64],.arr [.int .i64],.arr [.int .i64]]⟩ (fun ((list1,i,longs,backs,long,back):(List (Int×Int×Int))×Int×List Int×List Int×List Int×List Int)=>((list1.length:Int)-i).toNat+1) 0 ⟨[.list [.int .i64],.list [.int .i64]],[(4,.full 0),(5,.full 1)],[.arr [.int .i64],.arr [.int .i64]]⟩ .u))) .u))))))) Zbu.S d=Zbu.S.F d:=fun _=>by kernel_rfl
theorem Zbu.sound:Zah Tryz.prog C0 224 Zbu.S:=sE Zbe Zbu.ev (Zai ⟨ZcN.sound,Za7.sound,Za8.sound,ZeL.sound,ZcD.sound,trivial⟩) Tryz.func224
def Zcw.S:ZaR:=⟨0,[.sc (.list [.int .i64]),.sc (.int .i64)],[],[.list [.int .i64],.int .i64],⟨[.list [.int .i64]],.sc (.list [.int .i64]),[]⟩,
 fun ((lens,least_):List Int×Int)=>Zcw lens least_⟩
theorem Zcw.ev:∀d,Za9 C0 (hnd (tab [])) Tryz.f225 (.seq .u (.seq .u (.seq (.blk (.loop ⟨[.list [.int .i64],.int .i64,.int .i64],[(0,.sc (.list [.int .i64])),(1,.sc (.int .i64)),(5,.sc (.int .i64))],[]⟩ (fun ((lens1,least_1,n):List Int×Int×Int)=>(n-least_1).toNat+1) 0 ⟨[.list [.int .i64],.int .i64],[(0,.sc (.list [.int .i64])),(5,.sc (.int .i64))],[]⟩ (.seq (.seq (.reg [.bool] [(18,.sc .bool)]) .u) .u))) .u))) Zcw.S d=Zcw.S.F d:=fun _=>by kernel_rfl
theorem Zcw.sound:Zah Tryz.prog C0 225 Zcw.S:=sE Zbe Zcw.ev (Zai trivial) Tryz.func225
def Zdp.S:ZaR:=⟨0,[],[],[],⟨[.list [.int .i64]],.full 0,[.arr [.int .i64]]⟩,
 fun (_:Unit)=>Zdp⟩
theorem Zdp.ev:∀d,Za9 C0 (hnd (tab [])) Tryz.f246 .u Zdp.S d=Zdp.S.F d:=fun _=>by kernel_rfl
theorem Zdp.sound:Zah Tryz.prog C0 246 Zdp.S:=sE Zbe Zdp.ev (Zai trivial) Tryz.func246
def Zce.S:ZaR:=⟨1,[.ptr 0 0,.sc (.list [.int .i64]),.sc (.list [.int .i64])],[.box [.full 1,.sc (.int .i64),.sc (.int .i64)],.arr [.int .u8]],[.list [.int .i64],.list [.int .i64],.int .i64,.int .i64,.list [.int .u8]],⟨[.int .i64,.int .i64,.list [.int .u8]],.tup [],[.box [.full 1,.sc (.int .i64),.sc (.int .i64)],.arr [.int .u8]]⟩,
 fun ((longs,backs,last,fill,text):List Int×List Int×Int×Int×List Int)=>Zce longs backs last fill text⟩
theorem Zce.ev:∀d,Za9 C0 (hnd (tab [(218,Zd0.S),(226,ZcO.S),(236,ZaL.S),(240,ZmC.S),(246,Zdp.S)])) Tryz.f227 (.seq .u (.seq .u (.seq (.seq .u (.blk (.loop ⟨[.list [.int .i64],.list [.int .i64],.int .i64,.int .i64,.int .i64,.list [.int .i64],.list [.int .i64],.list [.int .u8]],[(0,.ptr 0 0),(1,.sc (.list [.int .i64])),(2,.sc (.list [.int .i64])),(6,.full 1),(7,.full 2),(8,.sc (.int .i64))],[.box [.full 3,.sc (.int .i64),.sc (.int .i64)],.arr [.int .i64],.arr [.int .i64],.arr [.int .u8]]⟩ (fun ((longs1,backs1,i,o,o1,all,counts,o2):List Int×List Int×Int×Int×Int×List Int×List Int×List Int)=>((all.length:Int)-i).toNat+1) 0 ⟨[.list [.int .i64],.list [.int .i64],.int .i64,.int .i64,.list [.int .i64],.list [.int .i64],.list [.int .u8]],[(0,.ptr 0 0),(1,.sc (.list [.int .i64])),(2,.sc (.list [.int .i64])),(6,.full 1),(7,.full 2)],[.box [.full 3,.sc (.int .i64),.sc (.int .i64)],.arr [.int .i64],.arr [.int .i64],.arr [.int .u8]]⟩ .u))) (.seq .u (.seq .u (.seq .u (.seq .u (.seq .u (.seq (.seq .u (.blk (.loop ⟨[.int .i64,.int .i64,.int .i64,.list [.int .i64],.list [.int .i64],.list [.int .i64],.list [.int .u8]],[(0,.ptr 0 0),(6,.full 1),(9,.full 2),(10,.full 3),(11,.sc (.int .i64))],[.box [.full 4,.sc (.int .i64),.sc (.int .i64)],.arr [.int .i64],.arr [.int .i64],.arr [.int .i64],.arr [.int .u8]]⟩ (fun ((i1,o6,o7,all2,lens,codes_,o8):Int×Int×Int×List Int×List Int×List Int×List Int)=>(19-i1).toNat+1) 2 ⟨[.int .i64,.int .i64,.list [.int .i64],.list [.int .i64],.list [.int .i64],.list [.int .u8]],[(0,.ptr 0 0),(6,.full 1),(9,.full 2),(10,.full 3)],[.box [.full 4,.sc (.int .i64),.sc (.int .i64)],.arr [.int .i64],.arr [.int .i64],.arr [.int .i64],.arr [.int .u8]]⟩ .u))) (.seq .u (.blk (.loop ⟨[.int .i64,.int .i64,.int .i64,.list [.int .i64],.list [.int .i64],.list [.int .i64],.list [.int .u8]],[(0,.ptr 0 0),(6,.full 1),(9,.full 2),(10,.full 3),(12,.sc (.int .i64))],[.box [.full 4,.sc (.int .i64),.sc (.int .i64)],.arr [.int .i64],.arr [.int .i64],.arr [.int .i64],.arr [.int .u8]]⟩ (fun ((i2,o12,o13,all4,lens2,codes_2,o14):Int×Int×Int×List Int×List Int×List Int×List Int)=>((all4.length:Int)-i2).toNat+1) 4 ⟨[.int .i64,.int .i64,.list [.int .u8]],[],[.box [.full 1,.sc (.int .i64),.sc (.int .i64)],.arr [.int .u8]]⟩ .u)))))))))))) Zce.S d=Zce.S.F d:=fun _=>by kernel_rfl
theorem Zce.sound:Zah Tryz.prog C0 227 Zce.S:=sE Zbe Zce.ev (Zai ⟨Zd0.sound,ZcO.sound,ZaL.sound,ZmC.sound,Zdp.sound,trivial⟩) Tryz.func227
end Ev
end
section
open Go Go.Proofs
set_option maxRecDepth 100000
namespace Ev
set_option maxHeartbeats 1000000
def ZiB.S:ZaR:=⟨0,[.sc .str],[],[.str],⟨[.str],.sc .str,[]⟩,
 fun (text:Str)=>ZiB text⟩
theorem ZiB.ev:∀d,Za9 C0 (hnd (tab [(218,Zd0.S),(219,Zdx.S),(220,ZbJ.S),(221,ZaH.S),(224,Zbu.S),(225,Zcw.S),(226,ZcO.S),(227,Zce.S)])) Tryz.f206 .u ZiB.S d=ZiB.S.F d:=fun _=>by kernel_rfl
theorem ZiB.sound:Zah Tryz.prog C0 206 ZiB.S:=sE Zbe ZiB.ev (Zai ⟨Zd0.sound,Zdx.sound,ZbJ.sound,ZaH.sound,Zbu.sound,Zcw.sound,ZcO.sound,Zce.sound,trivial⟩) Tryz.func206
def Zao.S:ZaR:=⟨0,[.sc .str],[],[.str],⟨[.str],.sc .str,[]⟩,
 fun (text:Str)=>Zao text⟩
theorem Zao.ev:∀d,Za9 C0 (hnd (tab [(204,Zeb.S),(205,Zec.S),(206,ZiB.S)])) Tryz.f186 (.seq .u (.seq .u (.seq .u (.seq .u (.seq (.seq .u (.blk (.loop ⟨[.str,.int .i64,.list [.str]],[(3,.sc .str),(4,.full 0),(5,.sc (.int .i64))],[.arr [.str]]⟩ (fun ((out,i,list):Str×Int×List Str)=>((list.length:Int)-i).toNat+1) 0 ⟨[.str],[(3,.sc .str)],[]⟩ .u))) .u))))) Zao.S d=Zao.S.F d:=fun _=>by kernel_rfl
theorem Zao.sound:Zah Tryz.prog C0 186 Zao.S:=sE Zbe Zao.ev (Zai ⟨Zeb.sound,Zec.sound,ZiB.sound,trivial⟩) Tryz.func186
def ZbO.S:ZaR:=⟨1,[.ptr 0 0,.full 1],[.box [.sc .str,.sc (.int .i64),.sc .bool],.arr [.int .u8]],[.str,.int .i64,.bool,.list [.int .u8]],⟨[.str,.int .i64,.bool,.list [.int .u8]],.full 1,[.box [.sc .str,.sc (.int .i64),.sc .bool],.arr [.int .u8]]⟩,
 fun ((s,at_,bad,text):Str×Int×Bool×List Int)=>ZbO s at_ bad text⟩
theorem ZbO.ev:∀d,Za9 C0 (hnd (tab [(208,ZcL.S),(229,ZeR.S)])) Tryz.f230 (.seq .u (.join ⟨[.str,.int .i64,.bool,.list [.int .u8]],[(0,.ptr 0 0),(1,.full 1)],[.box [.sc .str,.sc (.int .i64),.sc .bool],.arr [.int .u8]]⟩ .u (.seq .u (.join ⟨[.int .i64,.str,.int .i64,.bool,.list [.int .u8]],[(0,.ptr 0 0),(1,.full 1),(5,.sc (.int .i64))],[.box [.sc .str,.sc (.int .i64),.sc .bool],.arr [.int .u8]]⟩ .u (.seq (.seq .u (.blk (.loop ⟨[.int .i64,.int .i64,.str,.int .i64,.bool,.list [.int .u8]],[(0,.ptr 0 0),(1,.full 1),(5,.sc (.int .i64)),(6,.sc (.int .i64))],[.box [.sc .str,.sc (.int .i64),.sc .bool],.arr [.int .u8]]⟩ (fun ((n1,i,o6,o7,o8,text3):Int×Int×Str×Int×Bool×List Int)=>(n1-i).toNat+1) 0 ⟨[.str,.int .i64,.bool,.list [.int .u8]],[(1,.full 1)],[.box [.sc .str,.sc (.int .i64),.sc .bool],.arr [.int .u8]]⟩ (.seq (.seq (.reg [.bool] [(36,.sc .bool)]) .u) .u)))) .u))))) ZbO.S d=ZbO.S.F d:=fun _=>by kernel_rfl
theorem ZbO.sound:Zah Tryz.prog C0 230 ZbO.S:=sE Zbe ZbO.ev (Zai ⟨ZcL.sound,ZeR.sound,trivial⟩) Tryz.func230
def ZfA.S:ZaR:=⟨1,[.ptr 0 0,.full 1,.sc (.int .i64),.sc (.list [.int .i64]),.sc (.list [.int .i64])],[.box [.sc .str,.sc (.int .i64),.sc .bool],.arr [.int .u8]],[.int .i64,.list [.int .i64],.list [.int .i64],.str,.int .i64,.bool,.list [.int .u8]],⟨[.str,.int .i64,.bool,.list [.int .u8]],.full 1,[.box [.sc .str,.sc (.int .i64),.sc .bool],.arr [.int .u8]]⟩,
 fun ((sym,backs,codes_,s,at_,bad,text):Int×List Int×List Int×Str×Int×Bool×List Int)=>ZfA sym backs codes_ s at_ bad text⟩
theorem ZfA.ev:∀d,Za9 C0 (hnd (tab [(229,ZeR.S),(237,ZcN.S),(238,Za7.S),(239,Za8.S),(247,ZaS.S),(254,Zeu.S)])) Tryz.f248 (.seq .u (.seq .u (.seq .u (.seq (.cm [(2,[0]),(3,[0]),(4,[0])]) (.seq .u (.seq .u (.seq (.cm [(2,[0]),(3,[0]),(4,[0])]) .u))))))) ZfA.S d=ZfA.S.F d:=fun _=>by kernel_rfl
theorem ZfA.sound:Zah Tryz.prog C0 248 ZfA.S:=sE Zbe ZfA.ev (Zai ⟨ZeR.sound,ZcN.sound,Za7.sound,Za8.sound,ZaS.sound,Zeu.sound,trivial⟩) Tryz.func248
def Zb2.S:ZaR:=⟨1,[.ptr 0 0,.full 1,.sc (.list [.int .i64]),.sc (.list [.int .i64])],[.box [.sc .str,.sc (.int .i64),.sc .bool],.arr [.int .u8]],[.list [.int .i64],.list [.int .i64],.str,.int .i64,.bool,.list [.int .u8]],⟨[.str,.int .i64,.bool,.list [.int .u8]],.full 1,[.box [.sc .str,.sc (.int .i64),.sc .bool],.arr [.int .u8]]⟩,
 fun ((longs,backs,s,at_,bad,text):List Int×List Int×Str×Int×Bool×List Int)=>Zb2 longs backs s at_ bad text⟩
theorem Zb2.ev:∀d,Za9 C0 (hnd (tab [(236,ZaL.S),(247,ZaS.S),(248,ZfA.S)])) Tryz.f231 (.seq .u (.seq .u (.seq .u (.seq (.blk (.loopS ⟨[.list [.int .i64],.list [.int .i64],.str,.int .i64,.bool,.list [.int .u8],.list [.int .i64],.list [.int .i64]],[(0,.ptr 0 0),(1,.full 1),(2,.sc (.list [.int .i64])),(3,.sc (.list [.int .i64])),(9,.full 2),(10,.full 3)],[.box [.sc .str,.sc (.int .i64),.sc .bool],.arr [.int .u8],.arr [.int .i64],.arr [.int .i64]]⟩ (fun ((longs1,backs1,o,o1,o2,text1,a,b):List Int×List Int×Str×Int×Bool×List Int×List Int×List Int)=>100000) 0 ⟨[.str,.int .i64,.bool,.list [.int .u8]],[(0,.ptr 0 0),(1,.full 1)],[.box [.sc .str,.sc (.int .i64),.sc .bool],.arr [.int .u8]]⟩ (.seq (.seq (.reg [.bool] [(25,.sc .bool)]) .u) (.blk (.seq .u (.blk (.seq (.reg [.bool] [(36,.sc .bool)]) .u))))))) .u)))) Zb2.S d=Zb2.S.F d:=fun _=>by kernel_rfl
theorem Zb2.sound:Zah Tryz.prog C0 231 Zb2.S:=sE Zbe Zb2.ev (Zai ⟨ZaL.sound,ZaS.sound,ZfA.sound,trivial⟩) Tryz.func231
def ZdK.S:ZaR:=⟨1,[.ptr 0 0,.full 1,.sc (.int .i64)],[.box [.sc .str,.sc (.int .i64),.sc .bool],.arr [.int .i64]],[.int .i64,.str,.int .i64,.bool,.list [.int .i64]],⟨[.str,.int .i64,.bool,.list [.int .i64]],.full 1,[.box [.sc .str,.sc (.int .i64),.sc .bool],.arr [.int .i64]]⟩,
 fun ((sym,s,at_,bad,out):Int×Str×Int×Bool×List Int)=>ZdK sym s at_ bad out⟩
theorem ZdK.ev:∀d,Za9 C0 (hnd (tab [(229,ZeR.S)])) Tryz.f250 (.seq .u (.seq .u (.seq .u (.join ⟨[.int .i64,.int .i64,.str,.int .i64,.bool,.list [.int .i64]],[(0,.ptr 0 0),(1,.full 1),(7,.sc (.int .i64)),(8,.sc (.int .i64))],[.box [.sc .str,.sc (.int .i64),.sc .bool],.arr [.int .i64]]⟩ (.blk (.seq (.reg [.bool] [(11,.sc .bool)]) .u)) (.seq (.seq .u (.blk (.loop ⟨[.int .i64,.int .i64,.int .i64,.str,.int .i64,.bool,.list [.int .i64]],[(0,.ptr 0 0),(1,.full 1),(7,.sc (.int .i64)),(8,.sc (.int .i64)),(9,.sc (.int .i64))],[.box [.sc .str,.sc (.int .i64),.sc .bool],.arr [.int .i64]]⟩ (fun ((last1,n1,i,o3,o4,o5,out2):Int×Int×Int×Str×Int×Bool×List Int)=>(n1-i).toNat+1) 1 ⟨[.str,.int .i64,.bool,.list [.int .i64]],[(1,.full 1)],[.box [.sc .str,.sc (.int .i64),.sc .bool],.arr [.int .i64]]⟩ (.seq (.seq (.reg [.bool] [(55,.sc .bool)]) .u) .u)))) .u))))) ZdK.S d=ZdK.S.F d:=fun _=>by kernel_rfl
theorem ZdK.sound:Zah Tryz.prog C0 250 ZdK.S:=sE Zbe ZdK.ev (Zai ⟨ZeR.sound,trivial⟩) Tryz.func250
def ZcR.S:ZaR:=⟨1,[.ptr 0 0],[.box [.sc .str,.sc (.int .i64),.sc .bool]],[.str,.int .i64,.bool],⟨[.list [.int .i64],.list [.int .i64],.str,.int .i64,.bool],.tup [.sc (.list [.int .i64]),.sc (.list [.int .i64])],[.box [.sc .str,.sc (.int .i64),.sc .bool]]⟩,
 fun ((s,at_,bad):Str×Int×Bool)=>ZcR s at_ bad⟩
theorem ZcR.ev:∀d,Za9 C0 (hnd (tab [(229,ZeR.S),(236,ZaL.S),(246,Zdp.S),(247,ZaS.S),(249,ZaN.S),(250,ZdK.S)])) Tryz.f232 (.seq .u (.seq .u (.seq .u (.seq .u (.seq .u (.seq (.seq .u (.blk (.loop ⟨[.int .i64,.int .i64,.int .i64,.int .i64,.str,.int .i64,.bool,.list [.int .i64]],[(0,.ptr 0 0),(4,.sc (.int .i64)),(5,.sc (.int .i64)),(6,.sc (.int .i64)),(7,.full 1),(8,.sc (.int .i64))],[.box [.sc .str,.sc (.int .i64),.sc .bool],.arr [.int .i64]]⟩ (fun ((long,back,n,i,o,o1,o2,lens):Int×Int×Int×Int×Str×Int×Bool×List Int)=>(n-i).toNat+1) 0 ⟨[.int .i64,.int .i64,.str,.int .i64,.bool,.list [.int .i64]],[(0,.ptr 0 0),(4,.sc (.int .i64)),(5,.sc (.int .i64)),(7,.full 1)],[.box [.sc .str,.sc (.int .i64),.sc .bool],.arr [.int .i64]]⟩ (.seq .u (.seq (.blk (.cm [(0,[0]),(2,[0]),(3,[0]),(4,[0])])) .u))))) (.seq (.seq (.reg [.bool] [(44,.sc .bool)]) .u) (.seq .u (.seq .u (.seq (.blk (.loop ⟨[.int .i64,.int .i64,.str,.int .i64,.bool,.list [.int .i64],.list [.int .i64],.list [.int .i64]],[(0,.ptr 0 0),(4,.sc (.int .i64)),(5,.sc (.int .i64)),(7,.full 1),(9,.full 2),(10,.full 3)],[.box [.sc .str,.sc (.int .i64),.sc .bool],.arr [.int .i64],.arr [.int .i64],.arr [.int .i64]]⟩ (fun ((long2,back2,o6,o7,o8,lens2,codes_,all):Int×Int×Str×Int×Bool×List Int×List Int×List Int)=>((w64 (long2+back2))-(all.length:Int)).toNat+1) 2 ⟨[.int .i64,.int .i64,.str,.int .i64,.bool,.list [.int .i64]],[(0,.ptr 0 0),(4,.sc (.int .i64)),(5,.sc (.int .i64)),(10,.full 1)],[.box [.sc .str,.sc (.int .i64),.sc .bool],.arr [.int .i64]]⟩ (.seq (.seq (.reg [.bool] [(65,.sc .bool)]) .u) .u))) (.seq (.seq (.reg [.bool] [(98,.sc .bool)]) .u) .u))))))))))) ZcR.S d=ZcR.S.F d:=fun _=>by kernel_rfl
theorem ZcR.sound:Zah Tryz.prog C0 232 ZcR.S:=sE Zbe ZcR.ev (Zai ⟨ZeR.sound,ZaL.sound,Zdp.sound,ZaS.sound,ZaN.sound,ZdK.sound,trivial⟩) Tryz.func232
def Zin.S:ZaR:=⟨1,[.ptr 0 0,.full 1],[.box [.sc .str,.sc (.int .i64),.sc .bool],.arr [.int .u8]],[.str,.int .i64,.bool,.list [.int .u8]],⟨[.bool,.str,.int .i64,.bool,.list [.int .u8]],.tup [.full 1,.sc .bool],[.box [.sc .str,.sc (.int .i64),.sc .bool],.arr [.int .u8]]⟩,
 fun ((s,at_,bad,text):Str×Int×Bool×List Int)=>Zin s at_ bad text⟩
theorem Zin.ev:∀d,Za9 C0 (hnd (tab [(222,ZcS.S),(223,ZcT.S),(228,Zji.S),(229,ZeR.S),(230,ZbO.S),(231,Zb2.S),(232,ZcR.S)])) Tryz.f207 .u Zin.S d=Zin.S.F d:=fun _=>by kernel_rfl
theorem Zin.sound:Zah Tryz.prog C0 207 Zin.S:=sE Zbe Zin.ev (Zai ⟨ZcS.sound,ZcT.sound,Zji.sound,ZeR.sound,ZbO.sound,Zb2.sound,ZcR.sound,trivial⟩) Tryz.func207
def Zej.S:ZaR:=⟨0,[.sc .str],[],[.str],⟨[.str,.int .i64,.bool],.tup [.sc .str,.sc (.int .i64),.sc .bool],[]⟩,
 fun (text:Str)=>Zej text⟩
theorem Zej.ev:∀d,Za9 C0 (hnd (tab [(207,Zin.S),(208,ZcL.S)])) Tryz.f188 (.seq .u (.seq .u (.seq .u (.seq .u (.seq (.blk (.loop ⟨[.bool,.str,.int .i64,.bool,.list [.int .u8]],[(5,.ptr 0 0),(6,.full 1),(7,.sc .bool)],[.box [.sc .str,.sc (.int .i64),.sc .bool],.arr [.int .u8]]⟩ (fun ((last,o,o1,o2,out):Bool×Str×Int×Bool×List Int)=>100000) 0 ⟨[.str,.int .i64,.bool,.list [.int .u8]],[(5,.ptr 0 0),(6,.full 1)],[.box [.sc .str,.sc (.int .i64),.sc .bool],.arr [.int .u8]]⟩ (.seq (.seq (.reg [.bool] [(23,.sc .bool)]) .u) .u))) (.seq .u (.seq (.seq (.reg [.bool] [(46,.sc .bool)]) .u) .u))))))) Zej.S d=Zej.S.F d:=fun _=>by kernel_rfl
theorem Zej.sound:Zah Tryz.prog C0 188 Zej.S:=sE Zbe Zej.ev (Zai ⟨Zin.sound,ZcL.sound,trivial⟩) Tryz.func188
def Zbp.S:ZaR:=⟨0,[.sc .str],[],[.str],⟨[.str,.int .i64,.bool],.tup [.sc .str,.sc (.int .i64),.sc .bool],[]⟩,
 fun (text:Str)=>Zbp text⟩
theorem Zbp.ev:∀d,Za9 C0 (hnd (tab [(188,Zej.S)])) Tryz.f160 .u Zbp.S d=Zbp.S.F d:=fun _=>by kernel_rfl
theorem Zbp.sound:Zah Tryz.prog C0 160 Zbp.S:=sE Zbe Zbp.ev (Zai ⟨Zej.sound,trivial⟩) Tryz.func160
def Zgg.S:ZaR:=⟨0,[.sc (.int .i64),.sc (.int .i64)],[],[.int .i64,.int .i64],⟨[.int .i64],.sc (.int .i64),[]⟩,
 fun ((year,month):Int×Int)=>Zgg year month⟩
theorem Zgg.ev:∀d,Za9 C0 (hnd (tab [])) Tryz.f171 (.seq .u (.seq (.seq .u (.blk (.join ⟨[.int .i64,.int .i64,.bool],[(0,.sc (.int .i64)),(5,.sc (.int .i64)),(6,.sc .bool)],[]⟩ .u (.cond .u (.seq .u (.cond (.seq (.seq (.reg [.bool] [(25,.sc .bool)]) .u) .u) .u)))))) .u)) Zgg.S d=Zgg.S.F d:=fun _=>by kernel_rfl
theorem Zgg.sound:Zah Tryz.prog C0 171 Zgg.S:=sE Zbe Zgg.ev (Zai trivial) Tryz.func171
def ZbT.S:ZaR:=⟨0,[.agg [.sc (.int .i64),.sc (.int .i64),.sc (.int .i64),.sc (.int .i64),.sc (.int .i64),.sc (.int .i64)]],[],[.int .i64,.int .i64,.int .i64,.int .i64,.int .i64,.int .i64],⟨[.bool],.sc .bool,[]⟩,
 fun ((y,mo,d,h,mi,sec):Int×Int×Int×Int×Int×Int)=>ZbT y mo d h mi sec⟩
theorem ZbT.ev:∀d,Za9 C0 (hnd (tab [(88,ZgY.S),(171,Zgg.S)])) Tryz.f129 (.seq .u (.seq (.reg [.bool] [(3,.sc .bool)]) (.seq (.reg [.bool] [(2,.sc .bool)]) .u))) ZbT.S d=ZbT.S.F d:=fun _=>by kernel_rfl
theorem ZbT.sound:Zah Tryz.prog C0 129 ZbT.S:=sE Zbe ZbT.ev (Zai ⟨ZgY.sound,Zgg.sound,trivial⟩) Tryz.func129
def Ziz.S:ZaR:=⟨0,[.agg [.sc (.int .i64),.sc (.int .i64),.sc (.int .i64),.sc (.int .i64),.sc (.int .i64),.sc (.int .i64)]],[],[.int .i64,.int .i64,.int .i64,.int .i64,.int .i64,.int .i64],⟨[.int .i64],.sc (.int .i64),[]⟩,
 fun ((y,mo,d,h,mi,sec):Int×Int×Int×Int×Int×Int)=>Ziz y mo d h mi sec⟩
theorem Ziz.ev:∀d,Za9 C0 (hnd (tab [])) Tryz.f185 .u Ziz.S d=Ziz.S.F d:=fun _=>by kernel_rfl
theorem Ziz.sound:Zah Tryz.prog C0 185 Ziz.S:=sE Zbe Ziz.ev (Zai trivial) Tryz.func185
def ZiA.S:ZaR:=⟨0,[.sc (.int .i64)],[],[.int .i64],⟨[.int .i64,.int .i64,.int .i64,.int .i64,.int .i64,.int .i64],.agg [.sc (.int .i64),.sc (.int .i64),.sc (.int .i64),.sc (.int .i64),.sc (.int .i64),.sc (.int .i64)],[]⟩,
 fun (n:Int)=>ZiA n⟩
theorem ZiA.ev:∀d,Za9 C0 (hnd (tab [])) Tryz.f123 .u ZiA.S d=ZiA.S.F d:=fun _=>by kernel_rfl
theorem ZiA.sound:Zah Tryz.prog C0 123 ZiA.S:=sE Zbe ZiA.ev (Zai trivial) Tryz.func123
def ZaJ.S:ZaR:=⟨0,[.agg [.sc .str,.sc (.int .i64),.sc (.int .i64),.sc (.int .i64),.sc (.int .i64),.sc (.int .i64),.sc (.int .i64),.sc .str]],[],[.str,.int .i64,.int .i64,.int .i64,.int .i64,.int .i64,.int .i64,.str],⟨[.bool],.sc .bool,[]⟩,
 fun ((name,y,mo,d,h,mi,sec,text):Str×Int×Int×Int×Int×Int×Int×Str)=>ZaJ name y mo d h mi sec text⟩
theorem ZaJ.ev:∀d,Za9 C0 (hnd (tab [(51,Zas.S),(129,ZbT.S)])) Tryz.f74 (.seq .u (.seq (.reg [.bool] [(2,.sc .bool)]) .u)) ZaJ.S d=ZaJ.S.F d:=fun _=>by kernel_rfl
theorem ZaJ.sound:Zah Tryz.prog C0 74 ZaJ.S:=sE Zbe ZaJ.ev (Zai ⟨Zas.sound,ZbT.sound,trivial⟩) Tryz.func74
def Zav.S:ZaR:=⟨0,[.sc (.int .i64),.sc (.int .i64)],[],[.int .i64,.int .i64],⟨[.str],.sc .str,[]⟩,
 fun ((n,many):Int×Int)=>Zav n many⟩
theorem Zav.ev:∀d,Za9 C0 (hnd (tab [])) Tryz.f133 (.seq .u (.seq .u (.seq (.seq .u (.blk (.loop ⟨[.int .i64,.int .i64,.int .i64,.list [.int .u8]],[(0,.sc (.int .i64)),(1,.sc (.int .i64)),(5,.full 0),(6,.sc (.int .i64))],[.arr [.int .u8]]⟩ (fun ((n1,many1,i,out):Int×Int×Int×List Int)=>(many1-i).toNat+1) 0 ⟨[.list [.int .u8]],[(5,.full 0)],[.arr [.int .u8]]⟩ .u))) .u))) Zav.S d=Zav.S.F d:=fun _=>by kernel_rfl
theorem Zav.sound:Zah Tryz.prog C0 133 Zav.S:=sE Zbe Zav.ev (Zai trivial) Tryz.func133
def Zb7.S:ZaR:=⟨0,[.sc .str,.sc (.int .i64),.sc (.int .i64)],[],[.str,.int .i64,.int .i64],⟨[.int .i64],.sc (.int .i64),[]⟩,
 fun ((s,at_,many):Str×Int×Int)=>Zb7 s at_ many⟩
theorem Zb7.ev:∀d,Za9 C0 (hnd (tab [])) Tryz.f87 (.seq .u (.seq .u (.seq (.seq (.reg [.bool] [(18,.sc .bool)]) .u) (.seq (.seq .u (.blk (.loop ⟨[.str,.int .i64,.int .i64,.int .i64],[(0,.sc .str),(1,.sc (.int .i64)),(7,.sc (.int .i64)),(8,.sc (.int .i64))],[]⟩ (fun ((s1,at_1,n,i):Str×Int×Int×Int)=>(i-0).toNat+2) 0 ⟨[.int .i64],[(7,.sc (.int .i64))],[]⟩ .u))) .u)))) Zb7.S d=Zb7.S.F d:=fun _=>by kernel_rfl
theorem Zb7.sound:Zah Tryz.prog C0 87 Zb7.S:=sE Zbe Zb7.ev (Zai trivial) Tryz.func87
def ZgX.S:ZaR:=⟨0,[.sc .str],[],[.str],⟨[.int .i64,.str],.tup [.sc (.int .i64),.sc .str],[]⟩,
 fun (text:Str)=>ZgX text⟩
theorem ZgX.ev:∀d,Za9 C0 (hnd (tab [(186,Zao.S)])) Tryz.f152 .u ZgX.S d=ZgX.S.F d:=fun _=>by kernel_rfl
theorem ZgX.sound:Zah Tryz.prog C0 152 ZgX.S:=sE Zbe ZgX.ev (Zai ⟨Zao.sound,trivial⟩) Tryz.func152
def ZcI.S:ZaR:=⟨0,[.agg [.sc .str,.sc (.int .i64),.sc (.int .i64),.sc (.int .i64),.sc (.int .i64),.sc (.int .i64),.sc (.int .i64),.sc .str]],[],[.str,.int .i64,.int .i64,.int .i64,.int .i64,.int .i64,.int .i64,.str],⟨[.str],.sc .str,[]⟩,
 fun ((name,y,mo,d,h,mi,sec,text):Str×Int×Int×Int×Int×Int×Int×Str)=>ZcI name y mo d h mi sec text⟩
theorem ZcI.ev:∀d,Za9 C0 (hnd (tab [(125,Zdn.S),(133,Zav.S),(152,ZgX.S),(185,Ziz.S)])) Tryz.f151 .u ZcI.S d=ZcI.S.F d:=fun _=>by kernel_rfl
theorem ZcI.sound:Zah Tryz.prog C0 151 ZcI.S:=sE Zbe ZcI.ev (Zai ⟨Zdn.sound,Zav.sound,ZgX.sound,Ziz.sound,trivial⟩) Tryz.func151
def Zdo.S:ZaR:=⟨0,[.agg [.sc .str,.sc (.int .i64),.sc (.int .i64),.sc (.int .i64),.sc (.int .i64),.sc (.int .i64),.sc (.int .i64),.sc .str]],[],[.str,.int .i64,.int .i64,.int .i64,.int .i64,.int .i64,.int .i64,.str],⟨[.str],.sc .str,[]⟩,
 fun ((name,y,mo,d,h,mi,sec,text):Str×Int×Int×Int×Int×Int×Int×Str)=>Zdo name y mo d h mi sec text⟩
theorem Zdo.ev:∀d,Za9 C0 (hnd (tab [(133,Zav.S),(151,ZcI.S),(152,ZgX.S)])) Tryz.f110 .u Zdo.S d=Zdo.S.F d:=fun _=>by kernel_rfl
theorem Zdo.sound:Zah Tryz.prog C0 110 Zdo.S:=sE Zbe Zdo.ev (Zai ⟨Zav.sound,ZcI.sound,ZgX.sound,trivial⟩) Tryz.func110
def ZbA.S:ZaR:=⟨0,[.agg [.sc .str,.sc (.int .i64),.sc (.int .i64),.sc (.int .i64),.sc (.int .i64),.sc (.int .i64),.sc (.int .i64),.sc .str]],[],[.str,.int .i64,.int .i64,.int .i64,.int .i64,.int .i64,.int .i64,.str],⟨[.str],.sc .str,[]⟩,
 fun ((name,y,mo,d,h,mi,sec,text):Str×Int×Int×Int×Int×Int×Int×Str)=>ZbA name y mo d h mi sec text⟩
theorem ZbA.ev:∀d,Za9 C0 (hnd (tab [(74,ZaJ.S),(110,Zdo.S)])) Tryz.f69 .u ZbA.S d=ZbA.S.F d:=fun _=>by kernel_rfl
theorem ZbA.sound:Zah Tryz.prog C0 69 ZbA.S:=sE Zbe ZbA.ev (Zai ⟨ZaJ.sound,Zdo.sound,trivial⟩) Tryz.func69
def ZfF.S:ZaR:=⟨0,[.sc (.int .i64),.sc .str],[],[.int .i64,.str],⟨[.str,.bool],.tup [.sc .str,.sc .bool],[]⟩,
 fun ((how,packed):Int×Str)=>ZfF how packed⟩
theorem ZfF.ev:∀d,Za9 C0 (hnd (tab [(160,Zbp.S)])) Tryz.f124 (.seq .u (.seq .u (.seq .u (.seq (.reg [.str,.bool] [(4,.sc .str),(5,.sc .bool)]) .u)))) ZfF.S d=ZfF.S.F d:=fun _=>by kernel_rfl
theorem ZfF.sound:Zah Tryz.prog C0 124 ZfF.S:=sE Zbe ZfF.ev (Zai ⟨Zbp.sound,trivial⟩) Tryz.func124
def ZdI.S:ZaR:=⟨0,[.sc .str],[],[.str],⟨[.str,.int .i64,.int .i64,.int .i64,.int .i64,.int .i64,.int .i64,.str,.int .i64,.bool],.tup [.agg [.sc .str,.sc (.int .i64),.sc (.int .i64),.sc (.int .i64),.sc (.int .i64),.sc (.int .i64),.sc (.int .i64),.sc .str],.sc (.int .i64),.sc .bool],[]⟩,
 fun (text:Str)=>ZdI text⟩
theorem ZdI.ev:∀d,Za9 C0 (hnd (tab [(74,ZaJ.S),(87,Zb7.S),(123,ZiA.S),(124,ZfF.S),(125,Zdn.S)])) Tryz.f71 (.seq .u (.seq .u (.seq .u (.seq (.reg [.bool] [(7,.sc .bool)]) (.seq (.seq (.reg [.bool] [(51,.sc .bool)]) .u) (.seq .u (.seq .u (.seq .u (.seq (.reg [.bool] [(10,.sc .bool)]) (.seq (.cm [(1,[0]),(2,[0]),(3,[0]),(4,[0]),(9,[0])]) .u)))))))))) ZdI.S d=ZdI.S.F d:=fun _=>by kernel_rfl
theorem ZdI.sound:Zah Tryz.prog C0 71 ZdI.S:=sE Zbe ZdI.ev (Zai ⟨ZaJ.sound,Zb7.sound,ZiA.sound,ZfF.sound,Zdn.sound,trivial⟩) Tryz.func71
def ZbB.S:ZaR:=⟨0,[.sc .str],[],[.str],⟨[.str,.int .i64,.int .i64,.int .i64,.int .i64,.int .i64,.int .i64,.str,.int .i64,.bool],.tup [.agg [.sc .str,.sc (.int .i64),.sc (.int .i64),.sc (.int .i64),.sc (.int .i64),.sc (.int .i64),.sc (.int .i64),.sc .str],.sc (.int .i64),.sc .bool],[]⟩,
 fun (text:Str)=>ZbB text⟩
theorem ZbB.ev:∀d,Za9 C0 (hnd (tab [(71,ZdI.S)])) Tryz.f26 .u ZbB.S d=ZbB.S.F d:=fun _=>by kernel_rfl
theorem ZbB.sound:Zah Tryz.prog C0 26 ZbB.S:=sE Zbe ZbB.ev (Zai ⟨ZdI.sound,trivial⟩) Tryz.func26
def Zjz.S:ZaR:=⟨0,[.sc (.list [.str,.int .i64,.int .i64,.int .i64,.int .i64,.int .i64,.int .i64,.str]),.sc .str],[],[.list [.str,.int .i64,.int .i64,.int .i64,.int .i64,.int .i64,.int .i64,.str],.str],⟨[.int .i64],.sc (.int .i64),[]⟩,
 fun ((list,name):(List (Str×Int×Int×Int×Int×Int×Int×Str))×Str)=>Zjz list name⟩
theorem Zjz.ev:∀d,Za9 C0 (hnd (tab [])) Tryz.f75 (.seq .u (.seq (.seq .u (.blk (.loopS ⟨[.list [.str,.int .i64,.int .i64,.int .i64,.int .i64,.int .i64,.int .i64,.str],.str,.int .i64],[(0,.sc (.list [.str,.int .i64,.int .i64,.int .i64,.int .i64,.int .i64,.int .i64,.str])),(1,.sc .str),(5,.sc (.int .i64))],[]⟩ (fun ((list1,name1,i):(List (Str×Int×Int×Int×Int×Int×Int×Str))×Str×Int)=>((list1.length:Int)-i).toNat+1) 0 ⟨[],[],[]⟩ .u))) .u)) Zjz.S d=Zjz.S.F d:=fun _=>by kernel_rfl
theorem Zjz.sound:Zah Tryz.prog C0 75 Zjz.S:=sE Zbe Zjz.ev (Zai trivial) Tryz.func75
def Zap.S:ZaR:=⟨0,[.sc (.list [.str,.int .i64,.int .i64,.int .i64,.int .i64,.int .i64,.int .i64,.str])],[],[.list [.str,.int .i64,.int .i64,.int .i64,.int .i64,.int .i64,.int .i64,.str]],⟨[.bool],.sc .bool,[]⟩,
 fun (list:List (Str×Int×Int×Int×Int×Int×Int×Str))=>Zap list⟩
theorem Zap.ev:∀d,Za9 C0 (hnd (tab [(52,Zdd.S),(74,ZaJ.S),(75,Zjz.S)])) Tryz.f31 (.seq .u (.seq (.seq .u (.blk (.loopS ⟨[.list [.str,.int .i64,.int .i64,.int .i64,.int .i64,.int .i64,.int .i64,.str],.int .i64],[(0,.sc (.list [.str,.int .i64,.int .i64,.int .i64,.int .i64,.int .i64,.int .i64,.str])),(3,.sc (.int .i64))],[]⟩ (fun ((list1,i):(List (Str×Int×Int×Int×Int×Int×Int×Str))×Int)=>((list1.length:Int)-i).toNat+1) 0 ⟨[.list [.str,.int .i64,.int .i64,.int .i64,.int .i64,.int .i64,.int .i64,.str]],[(0,.sc (.list [.str,.int .i64,.int .i64,.int .i64,.int .i64,.int .i64,.int .i64,.str]))],[]⟩ (.seq .u (.seq (.blk (.seq (.seq (.reg [.bool] [(27,.sc .bool)]) .u) (.seq .u (.blk (.loopS ⟨[.list [.str,.int .i64,.int .i64,.int .i64,.int .i64,.int .i64,.int .i64,.str],.int .i64,.int .i64],[(0,.sc (.list [.str,.int .i64,.int .i64,.int .i64,.int .i64,.int .i64,.int .i64,.str])),(3,.sc (.int .i64)),(4,.sc (.int .i64))],[]⟩ (fun ((list2,i1,k):(List (Str×Int×Int×Int×Int×Int×Int×Str))×Int×Int)=>((list2.length:Int)-k).toNat+1) 2 ⟨[.list [.str,.int .i64,.int .i64,.int .i64,.int .i64,.int .i64,.int .i64,.str],.int .i64],[(0,.sc (.list [.str,.int .i64,.int .i64,.int .i64,.int .i64,.int .i64,.int .i64,.str])),(3,.sc (.int .i64))],[]⟩ .u))))) .u))))) .u)) Zap.S d=Zap.S.F d:=fun _=>by kernel_rfl
theorem Zap.sound:Zah Tryz.prog C0 31 Zap.S:=sE Zbe Zap.ev (Zai ⟨Zdd.sound,ZaJ.sound,Zjz.sound,trivial⟩) Tryz.func31
def ZcM.S:ZaR:=⟨0,[.agg [.sc .str,.sc (.int .i64),.sc (.int .i64),.sc (.int .i64),.sc (.int .i64),.sc (.int .i64),.sc (.int .i64),.sc .str],.sc (.int .i64)],[],[.str,.int .i64,.int .i64,.int .i64,.int .i64,.int .i64,.int .i64,.str,.int .i64],⟨[.str],.sc .str,[]⟩,
 fun ((name,y,mo,d,h,mi,sec,text,at_):Str×Int×Int×Int×Int×Int×Int×Str×Int)=>ZcM name y mo d h mi sec text at_⟩
theorem ZcM.ev:∀d,Za9 C0 (hnd (tab [(133,Zav.S),(151,ZcI.S)])) Tryz.f109 .u ZcM.S d=ZcM.S.F d:=fun _=>by kernel_rfl
theorem ZcM.sound:Zah Tryz.prog C0 109 ZcM.S:=sE Zbe ZcM.ev (Zai ⟨Zav.sound,ZcI.sound,trivial⟩) Tryz.func109
def ZgW.S:ZaR:=⟨0,[.sc (.int .i64),.sc (.int .i64),.sc (.int .i64)],[],[.int .i64,.int .i64,.int .i64],⟨[.str],.sc .str,[]⟩,
 fun ((many,long,at_):Int×Int×Int)=>ZgW many long at_⟩
theorem ZgW.ev:∀d,Za9 C0 (hnd (tab [(133,Zav.S)])) Tryz.f91 .u ZgW.S d=ZgW.S.F d:=fun _=>by kernel_rfl
theorem ZgW.sound:Zah Tryz.prog C0 91 ZgW.S:=sE Zbe ZgW.ev (Zai ⟨Zav.sound,trivial⟩) Tryz.func91
def ZdV.S:ZaR:=⟨0,[.sc (.list [.str,.int .i64,.int .i64,.int .i64,.int .i64,.int .i64,.int .i64,.str])],[],[.list [.str,.int .i64,.int .i64,.int .i64,.int .i64,.int .i64,.int .i64,.str]],⟨[.str],.sc .str,[]⟩,
 fun (list:List (Str×Int×Int×Int×Int×Int×Int×Str))=>ZdV list⟩
theorem ZdV.ev:∀d,Za9 C0 (hnd (tab [(91,ZgW.S),(109,ZcM.S),(110,Zdo.S)])) Tryz.f63 (.seq .u (.seq .u (.seq .u (.seq (.seq .u (.blk (.loop ⟨[.list [.str,.int .i64,.int .i64,.int .i64,.int .i64,.int .i64,.int .i64,.str],.str,.str,.int .i64],[(0,.sc (.list [.str,.int .i64,.int .i64,.int .i64,.int .i64,.int .i64,.int .i64,.str])),(3,.sc .str),(4,.sc .str),(5,.sc (.int .i64))],[]⟩ (fun ((list1,out,heads,i):(List (Str×Int×Int×Int×Int×Int×Int×Str))×Str×Str×Int)=>((list1.length:Int)-i).toNat+1) 0 ⟨[.list [.str,.int .i64,.int .i64,.int .i64,.int .i64,.int .i64,.int .i64,.str],.str,.str],[(0,.sc (.list [.str,.int .i64,.int .i64,.int .i64,.int .i64,.int .i64,.int .i64,.str])),(3,.sc .str),(4,.sc .str)],[]⟩ .u))) .u)))) ZdV.S d=ZdV.S.F d:=fun _=>by kernel_rfl
theorem ZdV.sound:Zah Tryz.prog C0 63 ZdV.S:=sE Zbe ZdV.ev (Zai ⟨ZgW.sound,ZcM.sound,Zdo.sound,trivial⟩) Tryz.func63
end Ev
end
section
open Go Go.Proofs
set_option maxRecDepth 100000
namespace Ev
set_option maxHeartbeats 1000000
def ZaI.S:ZaR:=⟨0,[.sc (.list [.str,.int .i64,.int .i64,.int .i64,.int .i64,.int .i64,.int .i64,.str])],[],[.list [.str,.int .i64,.int .i64,.int .i64,.int .i64,.int .i64,.int .i64,.str]],⟨[.str],.sc .str,[]⟩,
 fun (list:List (Str×Int×Int×Int×Int×Int×Int×Str))=>ZaI list⟩
theorem ZaI.ev:∀d,Za9 C0 (hnd (tab [(31,Zap.S),(63,ZdV.S)])) Tryz.f23 .u ZaI.S d=ZaI.S.F d:=fun _=>by kernel_rfl
theorem ZaI.sound:Zah Tryz.prog C0 23 ZaI.S:=sE Zbe ZaI.ev (Zai ⟨Zap.sound,ZdV.sound,trivial⟩) Tryz.func23
def ZeK.S:ZaR:=⟨0,[.sc .str,.sc (.int .i64)],[],[.str,.int .i64],⟨[.int .i64,.bool,.list [.str,.int .i64,.int .i64,.int .i64,.int .i64,.int .i64,.int .i64,.str]],.tup [.full 0,.sc (.int .i64),.sc .bool],[.arr [.str,.int .i64,.int .i64,.int .i64,.int .i64,.int .i64,.int .i64,.str]]⟩,
 fun ((text,many):Str×Int)=>ZeK text many⟩
theorem ZeK.ev:∀d,Za9 C0 (hnd (tab [(71,ZdI.S)])) Tryz.f89 (.seq .u (.seq .u (.seq .u (.seq (.seq .u (.blk (.loopS ⟨[.str,.int .i64,.int .i64,.int .i64,.list [.str,.int .i64,.int .i64,.int .i64,.int .i64,.int .i64,.int .i64,.str]],[(0,.sc .str),(1,.sc (.int .i64)),(7,.full 0),(8,.sc (.int .i64)),(9,.sc (.int .i64))],[.arr [.str,.int .i64,.int .i64,.int .i64,.int .i64,.int .i64,.int .i64,.str]]⟩ (fun ((text1,many1,at_,i,out):Str×Int×Int×Int×List (Str×Int×Int×Int×Int×Int×Int×Str))=>(many1-i).toNat+1) 0 ⟨[.int .i64,.list [.str,.int .i64,.int .i64,.int .i64,.int .i64,.int .i64,.int .i64,.str]],[(7,.full 0),(8,.sc (.int .i64))],[.arr [.str,.int .i64,.int .i64,.int .i64,.int .i64,.int .i64,.int .i64,.str]]⟩ .u))) .u)))) ZeK.S d=ZeK.S.F d:=fun _=>by kernel_rfl
theorem ZeK.sound:Zah Tryz.prog C0 89 ZeK.S:=sE Zbe ZeK.ev (Zai ⟨ZdI.sound,trivial⟩) Tryz.func89
def ZfE.S:ZaR:=⟨0,[.sc .str,.sc (.int .i64),.sc (.int .i64)],[],[.str,.int .i64,.int .i64],⟨[.int .i64,.bool],.tup [.sc (.int .i64),.sc .bool],[]⟩,
 fun ((text,head,at_):Str×Int×Int)=>ZfE text head at_⟩
theorem ZfE.ev:∀d,Za9 C0 (hnd (tab [(87,Zb7.S),(133,Zav.S)])) Tryz.f90 (.seq .u (.seq .u (.seq .u (.seq (.seq (.reg [.bool] [(36,.sc .bool)]) .u) (.seq (.reg [.bool] [(10,.sc .bool)]) (.seq (.reg [.bool] [(11,.sc .bool)]) (.seq (.reg [.int .i64,.bool] [(6,.sc (.int .i64)),(7,.sc .bool)]) .u))))))) ZfE.S d=ZfE.S.F d:=fun _=>by kernel_rfl
theorem ZfE.sound:Zah Tryz.prog C0 90 ZfE.S:=sE Zbe ZfE.ev (Zai ⟨Zb7.sound,Zav.sound,trivial⟩) Tryz.func90
def ZaW.S:ZaR:=⟨0,[.sc .str],[],[.str],⟨[.bool,.list [.str,.int .i64,.int .i64,.int .i64,.int .i64,.int .i64,.int .i64,.str]],.tup [.full 0,.sc .bool],[.arr [.str,.int .i64,.int .i64,.int .i64,.int .i64,.int .i64,.int .i64,.str]]⟩,
 fun (text:Str)=>ZaW text⟩
theorem ZaW.ev:∀d,Za9 C0 (hnd (tab [(31,Zap.S),(71,ZdI.S),(87,Zb7.S),(88,ZgY.S),(89,ZeK.S),(90,ZfE.S),(91,ZgW.S)])) Tryz.f46 (.seq .u (.seq .u (.seq .u (.seq .u (.seq (.seq (.reg [.bool] [(38,.sc .bool)]) .u) (.seq .u (.seq .u (.seq (.seq .u (.blk (.loopS ⟨[.str,.int .i64,.int .i64,.int .i64,.int .i64,.int .i64,.list [.str,.int .i64,.int .i64,.int .i64,.int .i64,.int .i64,.int .i64,.str]],[(0,.sc .str),(4,.sc (.int .i64)),(5,.full 0),(6,.sc (.int .i64)),(8,.sc (.int .i64)),(9,.sc (.int .i64)),(10,.sc (.int .i64))],[.arr [.str,.int .i64,.int .i64,.int .i64,.int .i64,.int .i64,.int .i64,.str]]⟩ (fun ((text1,many,at_,head,own,i,list):Str×Int×Int×Int×Int×Int×List (Str×Int×Int×Int×Int×Int×Int×Str))=>(many-i).toNat+1) 0 ⟨[.str,.int .i64,.int .i64,.int .i64,.list [.str,.int .i64,.int .i64,.int .i64,.int .i64,.int .i64,.int .i64,.str]],[(0,.sc .str),(4,.sc (.int .i64)),(5,.full 0),(6,.sc (.int .i64)),(8,.sc (.int .i64))],[.arr [.str,.int .i64,.int .i64,.int .i64,.int .i64,.int .i64,.int .i64,.str]]⟩ .u))) .u)))))))) ZaW.S d=ZaW.S.F d:=fun _=>by kernel_rfl
theorem ZaW.sound:Zah Tryz.prog C0 46 ZaW.S:=sE Zbe ZaW.ev (Zai ⟨Zap.sound,ZdI.sound,Zb7.sound,ZgY.sound,ZeK.sound,ZfE.sound,ZgW.sound,trivial⟩) Tryz.func46
def Zca.S:ZaR:=⟨0,[.sc (.list [.str,.int .i64,.int .i64,.int .i64,.int .i64,.int .i64,.int .i64,.str]),.sc .str],[],[.list [.str,.int .i64,.int .i64,.int .i64,.int .i64,.int .i64,.int .i64,.str],.str],⟨[.bool],.sc .bool,[]⟩,
 fun ((list,name):(List (Str×Int×Int×Int×Int×Int×Int×Str))×Str)=>Zca list name⟩
theorem Zca.ev:∀d,Za9 C0 (hnd (tab [(52,Zdd.S)])) Tryz.f184 (.seq .u (.seq (.seq .u (.blk (.loopS ⟨[.list [.str,.int .i64,.int .i64,.int .i64,.int .i64,.int .i64,.int .i64,.str],.str,.int .i64],[(0,.sc (.list [.str,.int .i64,.int .i64,.int .i64,.int .i64,.int .i64,.int .i64,.str])),(1,.sc .str),(5,.sc (.int .i64))],[]⟩ (fun ((list1,name1,i):(List (Str×Int×Int×Int×Int×Int×Int×Str))×Str×Int)=>((list1.length:Int)-i).toNat+1) 0 ⟨[],[],[]⟩ (.seq .u (.seq (.blk (.seq (.reg [.bool] [(36,.sc .bool)]) .u)) .u))))) .u)) Zca.S d=Zca.S.F d:=fun _=>by kernel_rfl
theorem Zca.sound:Zah Tryz.prog C0 184 Zca.S:=sE Zbe Zca.ev (Zai ⟨Zdd.sound,trivial⟩) Tryz.func184
def Ziy.S:ZaR:=⟨0,[.full 0,.agg [.sc .str,.sc (.int .i64),.sc (.int .i64),.sc (.int .i64),.sc (.int .i64),.sc (.int .i64),.sc (.int .i64),.sc .str]],[.arr [.str,.int .i64,.int .i64,.int .i64,.int .i64,.int .i64,.int .i64,.str]],[.str,.int .i64,.int .i64,.int .i64,.int .i64,.int .i64,.int .i64,.str,.list [.str,.int .i64,.int .i64,.int .i64,.int .i64,.int .i64,.int .i64,.str]],⟨[.int .i64,.list [.str,.int .i64,.int .i64,.int .i64,.int .i64,.int .i64,.int .i64,.str]],.tup [.full 0,.sc (.int .i64)],[.arr [.str,.int .i64,.int .i64,.int .i64,.int .i64,.int .i64,.int .i64,.str]]⟩,
 fun ((name,y,mo,d,h,mi,sec,text,list):Str×Int×Int×Int×Int×Int×Int×Str×List (Str×Int×Int×Int×Int×Int×Int×Str))=>Ziy name y mo d h mi sec text list⟩
theorem Ziy.ev:∀d,Za9 C0 (hnd (tab [(74,ZaJ.S),(184,Zca.S)])) Tryz.f149 .u Ziy.S d=Ziy.S.F d:=fun _=>by kernel_rfl
theorem Ziy.sound:Zah Tryz.prog C0 149 Ziy.S:=sE Zbe Ziy.ev (Zai ⟨ZaJ.sound,Zca.sound,trivial⟩) Tryz.func149
def Zdy.S:ZaR:=⟨0,[.sc (.list [.int .u8])],[],[.list [.int .u8]],⟨[.list [.int .u8],.int .i64],.ptr 0 0,[.box [.sc (.list [.int .u8]),.sc (.int .i64)]]⟩,
 fun (code_:List Int)=>Zdy code_⟩
theorem Zdy.ev:∀d,Za9 C0 (hnd (tab [])) Tryz.f48 .u Zdy.S d=Zdy.S.F d:=fun _=>by kernel_rfl
theorem Zdy.sound:Zah Tryz.prog C0 48 Zdy.S:=sE Zbe Zdy.ev (Zai trivial) Tryz.func48
def pick.S:ZaR:=⟨1,[.ptr 0 0,.sc (.int .i64)],[.box [.sc (.list [.int .u8]),.sc (.int .i64)]],[.int .i64,.list [.int .u8],.int .i64],⟨[.int .i64,.list [.int .u8],.int .i64],.sc (.int .i64),[.box [.sc (.list [.int .u8]),.sc (.int .i64)]]⟩,
 fun ((n,b,p):Int×List Int×Int)=>pick n b p⟩
theorem pick.ev:∀d,Za9 C0 (hnd (tab [])) Tryz.f78 (.seq .u (.seq .u (.seq (.seq (.reg [.bool] [(24,.sc .bool)]) .u) .u))) pick.S d=pick.S.F d:=fun _=>by kernel_rfl
theorem pick.sound:Zah Tryz.prog C0 78 pick.S:=sE Zbe pick.ev (Zai trivial) Tryz.func78
def Zi1.S:ZaR:=⟨1,[.ptr 0 0,.sc (.list [.str])],[.box [.sc (.list [.int .u8]),.sc (.int .i64)]],[.list [.str],.list [.int .u8],.int .i64],⟨[.str,.list [.int .u8],.int .i64],.sc .str,[.box [.sc (.list [.int .u8]),.sc (.int .i64)]]⟩,
 fun ((xs,b,p):List Str×List Int×Int)=>Zi1 xs b p⟩
theorem Zi1.ev:∀d,Za9 C0 (hnd (tab [(78,pick.S)])) Tryz.f84 .u Zi1.S d=Zi1.S.F d:=fun _=>by kernel_rfl
theorem Zi1.sound:Zah Tryz.prog C0 84 Zi1.S:=sE Zbe Zi1.ev (Zai ⟨pick.sound,trivial⟩) Tryz.func84
def Zdi.S:ZaR:=⟨0,[.sc .str,.sc (.int .i64)],[],[.str,.int .i64],⟨[.str],.sc .str,[]⟩,
 fun ((s,n):Str×Int)=>Zdi s n⟩
theorem Zdi.ev:∀d,Za9 C0 (hnd (tab [])) Tryz.f135 (.seq .u (.seq .u (.seq (.blk (.loop ⟨[.str,.int .i64,.str],[(0,.sc .str),(1,.sc (.int .i64)),(5,.sc .str)],[]⟩ (fun ((s1,n1,out):Str×Int×Str)=>n1.toNat+1) 0 ⟨[.str],[(5,.sc .str)],[]⟩ .u)) .u))) Zdi.S d=Zdi.S.F d:=fun _=>by kernel_rfl
theorem Zdi.sound:Zah Tryz.prog C0 135 Zdi.S:=sE Zbe Zdi.ev (Zai trivial) Tryz.func135
def ZbQ.S:ZaR:=⟨1,[.ptr 0 0],[.box [.sc (.list [.int .u8]),.sc (.int .i64)]],[.list [.int .u8],.int .i64],⟨[.str,.list [.int .u8],.int .i64],.sc .str,[.box [.sc (.list [.int .u8]),.sc (.int .i64)]]⟩,
 fun ((b,p):List Int×Int)=>ZbQ b p⟩
theorem ZbQ.ev:∀d,Za9 C0 (hnd (tab [(78,pick.S),(84,Zi1.S),(135,Zdi.S)])) Tryz.f122 (.seq .u (.seq (.seq .u (.blk (.seq .u (.cond .u (.seq .u (.cond .u (.seq .u (.cond (.seq .u (.seq (.seq .u (.blk (.loop ⟨[.int .i64,.list [.int .u8],.int .i64,.list [.int .u8]],[(0,.ptr 0 0),(3,.full 1),(4,.sc (.int .i64))],[.box [.sc (.list [.int .u8]),.sc (.int .i64)],.arr [.int .u8]]⟩ (fun ((n,o,o1,out):Int×List Int×Int×List Int)=>(n-0).toNat+1) 1 ⟨[.list [.int .u8],.int .i64,.list [.int .u8]],[(3,.full 1)],[.box [.sc (.list [.int .u8]),.sc (.int .i64)],.arr [.int .u8]]⟩ .u))) .u)) .u)))))))) (.seq .u (.seq (.seq .u (.blk (.loop ⟨[.str,.int .i64,.list [.int .u8],.int .i64],[(0,.ptr 0 0),(5,.sc .str),(6,.sc (.int .i64))],[.box [.sc (.list [.int .u8]),.sc (.int .i64)]]⟩ (fun ((out2,n1,o4,o5):Str×Int×List Int×Int)=>(n1-0).toNat+1) 3 ⟨[.str,.list [.int .u8],.int .i64],[(5,.sc .str)],[.box [.sc (.list [.int .u8]),.sc (.int .i64)]]⟩ .u))) .u)))) ZbQ.S d=ZbQ.S.F d:=fun _=>by kernel_rfl
theorem ZbQ.sound:Zah Tryz.prog C0 122 ZbQ.S:=sE Zbe ZbQ.ev (Zai ⟨pick.sound,Zi1.sound,Zdi.sound,trivial⟩) Tryz.func122
def Zck.S:ZaR:=⟨1,[.ptr 0 0],[.box [.sc (.list [.int .u8]),.sc (.int .i64)]],[.list [.int .u8],.int .i64],⟨[.str,.list [.int .u8],.int .i64],.sc .str,[.box [.sc (.list [.int .u8]),.sc (.int .i64)]]⟩,
 fun ((b,p):List Int×Int)=>Zck b p⟩
theorem Zck.ev:∀d,Za9 C0 (hnd (tab [(78,pick.S),(122,ZbQ.S),(135,Zdi.S)])) Tryz.f94 .u Zck.S d=Zck.S.F d:=fun _=>by kernel_rfl
theorem Zck.sound:Zah Tryz.prog C0 94 Zck.S:=sE Zbe Zck.ev (Zai ⟨pick.sound,ZbQ.sound,Zdi.sound,trivial⟩) Tryz.func94
def ZcU.S:ZaR:=⟨1,[.ptr 0 0],[.box [.sc (.list [.int .u8]),.sc (.int .i64)]],[.list [.int .u8],.int .i64],⟨[.str,.list [.int .u8],.int .i64],.sc .str,[.box [.sc (.list [.int .u8]),.sc (.int .i64)]]⟩,
 fun ((b,p):List Int×Int)=>ZcU b p⟩
theorem ZcU.ev:∀d,Za9 C0 (hnd (tab [(84,Zi1.S)])) Tryz.f120 .u ZcU.S d=ZcU.S.F d:=fun _=>by kernel_rfl
theorem ZcU.sound:Zah Tryz.prog C0 120 ZcU.S:=sE Zbe ZcU.ev (Zai ⟨Zi1.sound,trivial⟩) Tryz.func120
def Zcl.S:ZaR:=⟨1,[.ptr 0 0],[.box [.sc (.list [.int .u8]),.sc (.int .i64)]],[.list [.int .u8],.int .i64],⟨[.str,.list [.int .u8],.int .i64],.sc .str,[.box [.sc (.list [.int .u8]),.sc (.int .i64)]]⟩,
 fun ((b,p):List Int×Int)=>Zcl b p⟩
theorem Zcl.ev:∀d,Za9 C0 (hnd (tab [(78,pick.S),(84,Zi1.S),(120,ZcU.S)])) Tryz.f93 .u Zcl.S d=Zcl.S.F d:=fun _=>by kernel_rfl
theorem Zcl.sound:Zah Tryz.prog C0 93 Zcl.S:=sE Zbe Zcl.ev (Zai ⟨pick.sound,Zi1.sound,ZcU.sound,trivial⟩) Tryz.func93
def Zct.S:ZaR:=⟨0,[.sc (.list [.str,.int .i64,.int .i64,.int .i64,.int .i64,.int .i64,.int .i64,.str]),.sc (.list [.str,.int .i64,.int .i64,.int .i64,.int .i64,.int .i64,.int .i64,.str])],[],[.list [.str,.int .i64,.int .i64,.int .i64,.int .i64,.int .i64,.int .i64,.str],.list [.str,.int .i64,.int .i64,.int .i64,.int .i64,.int .i64,.int .i64,.str]],⟨[.bool],.sc .bool,[]⟩,
 fun ((xs,ys):(List (Str×Int×Int×Int×Int×Int×Int×Str))×List (Str×Int×Int×Int×Int×Int×Int×Str))=>Zct xs ys⟩
theorem Zct.ev:∀d,Za9 C0 (hnd (tab [])) Tryz.f32 (.seq .u (.seq .u (.seq (.seq .u (.blk (.loopS ⟨[.list [.str,.int .i64,.int .i64,.int .i64,.int .i64,.int .i64,.int .i64,.str],.list [.str,.int .i64,.int .i64,.int .i64,.int .i64,.int .i64,.int .i64,.str],.int .i64],[(0,.sc (.list [.str,.int .i64,.int .i64,.int .i64,.int .i64,.int .i64,.int .i64,.str])),(1,.sc (.list [.str,.int .i64,.int .i64,.int .i64,.int .i64,.int .i64,.int .i64,.str])),(5,.sc (.int .i64))],[]⟩ (fun ((a,b,i):(List (Str×Int×Int×Int×Int×Int×Int×Str))×(List (Str×Int×Int×Int×Int×Int×Int×Str))×Int)=>((a.length:Int)-i).toNat+1) 0 ⟨[],[],[]⟩ .u))) .u))) Zct.S d=Zct.S.F d:=fun _=>by kernel_rfl
theorem Zct.sound:Zah Tryz.prog C0 32 Zct.S:=sE Zbe Zct.ev (Zai trivial) Tryz.func32
def ZfV.S:ZaR:=⟨1,[.ptr 0 0,.sc (.list [.int .i64])],[.box [.sc (.list [.int .u8]),.sc (.int .i64)]],[.list [.int .i64],.list [.int .u8],.int .i64],⟨[.int .i64,.list [.int .u8],.int .i64],.sc (.int .i64),[.box [.sc (.list [.int .u8]),.sc (.int .i64)]]⟩,
 fun ((xs,b,p):List Int×List Int×Int)=>ZfV xs b p⟩
theorem ZfV.ev:∀d,Za9 C0 (hnd (tab [(78,pick.S)])) Tryz.f77 .u ZfV.S d=ZfV.S.F d:=fun _=>by kernel_rfl
theorem ZfV.sound:Zah Tryz.prog C0 77 ZfV.S:=sE Zbe ZfV.ev (Zai ⟨pick.sound,trivial⟩) Tryz.func77
def Zdq.S:ZaR:=⟨1,[.ptr 0 0,.sc .str],[.box [.sc (.list [.int .u8]),.sc (.int .i64)]],[.str,.list [.int .u8],.int .i64],⟨[.str,.list [.int .u8],.int .i64],.sc .str,[.box [.sc (.list [.int .u8]),.sc (.int .i64)]]⟩,
 fun ((s,b,p):Str×List Int×Int)=>Zdq s b p⟩
theorem Zdq.ev:∀d,Za9 C0 (hnd (tab [(78,pick.S),(84,Zi1.S)])) Tryz.f68 (.seq .u (.seq .u (.seq .u (.seq (.seq .u (.blk (.seq .u (.cond (.seq (.cm [(0,[0]),(1,[0]),(2,[0])]) .u) .u)))) .u)))) Zdq.S d=Zdq.S.F d:=fun _=>by kernel_rfl
theorem Zdq.sound:Zah Tryz.prog C0 68 Zdq.S:=sE Zbe Zdq.ev (Zai ⟨pick.sound,Zi1.sound,trivial⟩) Tryz.func68
def Zb4.S:ZaR:=⟨1,[.ptr 0 0],[.box [.sc (.list [.int .u8]),.sc (.int .i64)]],[.list [.int .u8],.int .i64],⟨[.int .i64,.int .i64,.int .i64,.int .i64,.int .i64,.int .i64,.list [.int .u8],.int .i64],.agg [.sc (.int .i64),.sc (.int .i64),.sc (.int .i64),.sc (.int .i64),.sc (.int .i64),.sc (.int .i64)],[.box [.sc (.list [.int .u8]),.sc (.int .i64)]]⟩,
 fun ((b,p):List Int×Int)=>Zb4 b p⟩
theorem Zb4.ev:∀d,Za9 C0 (hnd (tab [(77,ZfV.S),(78,pick.S)])) Tryz.f121 .u Zb4.S d=Zb4.S.F d:=fun _=>by kernel_rfl
theorem Zb4.sound:Zah Tryz.prog C0 121 Zb4.S:=sE Zbe Zb4.ev (Zai ⟨ZfV.sound,pick.sound,trivial⟩) Tryz.func121
def ZbV.S:ZaR:=⟨1,[.ptr 0 0],[.box [.sc (.list [.int .u8]),.sc (.int .i64)]],[.list [.int .u8],.int .i64],⟨[.int .i64,.int .i64,.int .i64,.int .i64,.int .i64,.int .i64,.list [.int .u8],.int .i64],.agg [.sc (.int .i64),.sc (.int .i64),.sc (.int .i64),.sc (.int .i64),.sc (.int .i64),.sc (.int .i64)],[.box [.sc (.list [.int .u8]),.sc (.int .i64)]]⟩,
 fun ((b,p):List Int×Int)=>ZbV b p⟩
theorem ZbV.ev:∀d,Za9 C0 (hnd (tab [(77,ZfV.S),(78,pick.S),(121,Zb4.S)])) Tryz.f150 .u ZbV.S d=ZbV.S.F d:=fun _=>by kernel_rfl
theorem ZbV.sound:Zah Tryz.prog C0 150 ZbV.S:=sE Zbe ZbV.ev (Zai ⟨ZfV.sound,pick.sound,Zb4.sound,trivial⟩) Tryz.func150
def ZbN.S:ZaR:=⟨1,[.ptr 0 0],[.box [.sc (.list [.int .u8]),.sc (.int .i64)]],[.list [.int .u8],.int .i64],⟨[.str,.int .i64,.int .i64,.int .i64,.int .i64,.int .i64,.int .i64,.str,.list [.int .u8],.int .i64],.agg [.sc .str,.sc (.int .i64),.sc (.int .i64),.sc (.int .i64),.sc (.int .i64),.sc (.int .i64),.sc (.int .i64),.sc .str],[.box [.sc (.list [.int .u8]),.sc (.int .i64)]]⟩,
 fun ((b,p):List Int×Int)=>ZbN b p⟩
theorem ZbN.ev:∀d,Za9 C0 (hnd (tab [(120,ZcU.S),(121,Zb4.S),(122,ZbQ.S)])) Tryz.f70 .u ZbN.S d=ZbN.S.F d:=fun _=>by kernel_rfl
theorem ZbN.sound:Zah Tryz.prog C0 70 ZbN.S:=sE Zbe ZbN.ev (Zai ⟨ZcU.sound,Zb4.sound,ZbQ.sound,trivial⟩) Tryz.func70
def ZbW.S:ZaR:=⟨1,[.ptr 0 0],[.box [.sc (.list [.int .u8]),.sc (.int .i64)]],[.list [.int .u8],.int .i64],⟨[.str,.int .i64,.int .i64,.int .i64,.int .i64,.int .i64,.int .i64,.str,.list [.int .u8],.int .i64],.agg [.sc .str,.sc (.int .i64),.sc (.int .i64),.sc (.int .i64),.sc (.int .i64),.sc (.int .i64),.sc (.int .i64),.sc .str],[.box [.sc (.list [.int .u8]),.sc (.int .i64)]]⟩,
 fun ((b,p):List Int×Int)=>ZbW b p⟩
theorem ZbW.ev:∀d,Za9 C0 (hnd (tab [(70,ZbN.S),(78,pick.S),(93,Zcl.S),(94,Zck.S),(150,ZbV.S)])) Tryz.f108 .u ZbW.S d=ZbW.S.F d:=fun _=>by kernel_rfl
theorem ZbW.sound:Zah Tryz.prog C0 108 ZbW.S:=sE Zbe ZbW.ev (Zai ⟨ZbN.sound,pick.sound,Zcl.sound,Zck.sound,ZbV.sound,trivial⟩) Tryz.func108
def ZaF.S:ZaR:=⟨1,[.ptr 0 0],[.box [.sc (.list [.int .u8]),.sc (.int .i64)]],[.list [.int .u8],.int .i64],⟨[.list [.int .u8],.int .i64,.list [.str,.int .i64,.int .i64,.int .i64,.int .i64,.int .i64,.int .i64,.str]],.full 1,[.box [.sc (.list [.int .u8]),.sc (.int .i64)],.arr [.str,.int .i64,.int .i64,.int .i64,.int .i64,.int .i64,.int .i64,.str]]⟩,
 fun ((b,p):List Int×Int)=>ZaF b p⟩
theorem ZaF.ev:∀d,Za9 C0 (hnd (tab [(70,ZbN.S),(78,pick.S),(121,Zb4.S),(131,ZfY.S),(149,Ziy.S)])) Tryz.f107 (.seq .u (.seq .u (.seq (.seq .u (.blk (.loop ⟨[.int .i64,.list [.int .u8],.int .i64,.list [.str,.int .i64,.int .i64,.int .i64,.int .i64,.int .i64,.int .i64,.str]],[(0,.ptr 0 0),(3,.full 1),(4,.sc (.int .i64))],[.box [.sc (.list [.int .u8]),.sc (.int .i64)],.arr [.str,.int .i64,.int .i64,.int .i64,.int .i64,.int .i64,.int .i64,.str]]⟩ (fun ((n,o,o1,out):Int×List Int×Int×List (Str×Int×Int×Int×Int×Int×Int×Str))=>(n-0).toNat+1) 0 ⟨[.list [.int .u8],.int .i64,.list [.str,.int .i64,.int .i64,.int .i64,.int .i64,.int .i64,.int .i64,.str]],[(0,.ptr 0 0),(3,.full 1)],[.box [.sc (.list [.int .u8]),.sc (.int .i64)],.arr [.str,.int .i64,.int .i64,.int .i64,.int .i64,.int .i64,.int .i64,.str]]⟩ .u))) (.seq (.seq .u (.cond (.seq .u (.blk (.loop ⟨[.int .i64,.list [.int .u8],.int .i64,.list [.str,.int .i64,.int .i64,.int .i64,.int .i64,.int .i64,.int .i64,.str]],[(0,.ptr 0 0),(3,.full 1),(5,.sc (.int .i64))],[.box [.sc (.list [.int .u8]),.sc (.int .i64)],.arr [.str,.int .i64,.int .i64,.int .i64,.int .i64,.int .i64,.int .i64,.str]]⟩ (fun ((n1,o4,o5,out2):Int×List Int×Int×List (Str×Int×Int×Int×Int×Int×Int×Str))=>(6-n1).toNat+1) 2 ⟨[.list [.int .u8],.int .i64,.list [.str,.int .i64,.int .i64,.int .i64,.int .i64,.int .i64,.int .i64,.str]],[(3,.full 1)],[.box [.sc (.list [.int .u8]),.sc (.int .i64)],.arr [.str,.int .i64,.int .i64,.int .i64,.int .i64,.int .i64,.int .i64,.str]]⟩ .u))) .u)) .u)))) ZaF.S d=ZaF.S.F d:=fun _=>by kernel_rfl
theorem ZaF.sound:Zah Tryz.prog C0 107 ZaF.S:=sE Zbe ZaF.ev (Zai ⟨ZbN.sound,pick.sound,Zb4.sound,ZfY.sound,Ziy.sound,trivial⟩) Tryz.func107
def Zcc.S:ZaR:=⟨1,[.ptr 0 0],[.box [.sc (.list [.int .u8]),.sc (.int .i64)]],[.list [.int .u8],.int .i64],⟨[.list [.int .u8],.int .i64,.list [.str,.int .i64,.int .i64,.int .i64,.int .i64,.int .i64,.int .i64,.str]],.full 1,[.box [.sc (.list [.int .u8]),.sc (.int .i64)],.arr [.str,.int .i64,.int .i64,.int .i64,.int .i64,.int .i64,.int .i64,.str]]⟩,
 fun ((b,p):List Int×Int)=>Zcc b p⟩
theorem Zcc.ev:∀d,Za9 C0 (hnd (tab [(78,pick.S),(107,ZaF.S),(108,ZbW.S)])) Tryz.f62 .u Zcc.S d=Zcc.S.F d:=fun _=>by kernel_rfl
theorem Zcc.sound:Zah Tryz.prog C0 62 Zcc.S:=sE Zbe Zcc.ev (Zai ⟨pick.sound,ZaF.sound,ZbW.sound,trivial⟩) Tryz.func62
def ZfG.S:ZaR:=⟨1,[.ptr 0 0],[.box [.sc (.list [.int .u8]),.sc (.int .i64)]],[.list [.int .u8],.int .i64],⟨[.str,.list [.int .u8],.int .i64],.sc .str,[.box [.sc (.list [.int .u8]),.sc (.int .i64)]]⟩,
 fun ((b,p):List Int×Int)=>ZfG b p⟩
theorem ZfG.ev:∀d,Za9 C0 (hnd (tab [(63,ZdV.S),(107,ZaF.S)])) Tryz.f76 .u ZfG.S d=ZfG.S.F d:=fun _=>by kernel_rfl
theorem ZfG.sound:Zah Tryz.prog C0 76 ZfG.S:=sE Zbe ZfG.ev (Zai ⟨ZdV.sound,ZaF.sound,trivial⟩) Tryz.func76
def ZbC.S:ZaR:=⟨0,[.sc (.list [.int .u8])],[],[.list [.int .u8]],⟨[.str],.sc .str,[]⟩,
 fun (code_:List Int)=>ZbC code_⟩
theorem ZbC.ev:∀d,Za9 C0 (hnd (tab [(48,Zdy.S),(68,Zdq.S),(69,ZbA.S),(70,ZbN.S)])) Tryz.f25 .u ZbC.S d=ZbC.S.F d:=fun _=>by kernel_rfl
theorem ZbC.sound:Zah Tryz.prog C0 25 ZbC.S:=sE Zbe ZbC.ev (Zai ⟨Zdy.sound,Zdq.sound,ZbA.sound,ZbN.sound,trivial⟩) Tryz.func25
def Za3.S:ZaR:=⟨0,[.sc (.list [.int .u8])],[],[.list [.int .u8]],⟨[.list [.str,.int .i64,.int .i64,.int .i64,.int .i64,.int .i64,.int .i64,.str]],.full 0,[.arr [.str,.int .i64,.int .i64,.int .i64,.int .i64,.int .i64,.int .i64,.str]]⟩,
 fun (code_:List Int)=>Za3 code_⟩
theorem Za3.ev:∀d,Za9 C0 (hnd (tab [(48,Zdy.S),(62,Zcc.S)])) Tryz.f22 .u Za3.S d=Za3.S.F d:=fun _=>by kernel_rfl
theorem Za3.sound:Zah Tryz.prog C0 22 Za3.S:=sE Zbe Za3.ev (Zai ⟨Zdy.sound,Zcc.sound,trivial⟩) Tryz.func22
def Zcm.S:ZaR:=⟨0,[.sc (.list [.int .u8])],[],[.list [.int .u8]],⟨[.str],.sc .str,[]⟩,
 fun (code_:List Int)=>Zcm code_⟩
theorem Zcm.ev:∀d,Za9 C0 (hnd (tab [(48,Zdy.S),(68,Zdq.S),(76,ZfG.S)])) Tryz.f45 .u Zcm.S d=Zcm.S.F d:=fun _=>by kernel_rfl
theorem Zcm.sound:Zah Tryz.prog C0 45 Zcm.S:=sE Zbe Zcm.ev (Zai ⟨Zdy.sound,Zdq.sound,ZfG.sound,trivial⟩) Tryz.func45
def FnLocalGet.S:ZaR:=⟨0,[.sc (.list [.int .u8])],[],[.list [.int .u8]],⟨[.bool],.sc .bool,[]⟩,
 fun (code_:List Int)=>FnLocalGet code_⟩
theorem FnLocalGet.ev:∀d,Za9 C0 (hnd (tab [(24,ZbM.S),(25,ZbC.S),(26,ZbB.S),(27,Zbt.S),(28,ZbZ.S)])) Tryz.f6 (.seq .u (.seq .u (.seq .u (.seq .u (.seq .u (.seq (.seq (.reg [.bool] [(46,.sc .bool)]) (.cond (.seq (.reg [.bool] [(2,.sc .bool)]) .u) .u)) (.seq .u (.seq (.reg [.bool] [(2,.sc .bool)]) .u)))))))) FnLocalGet.S d=FnLocalGet.S.F d:=fun _=>by kernel_rfl
def FnZipOrder.S:ZaR:=⟨0,[.sc (.list [.int .u8])],[],[.list [.int .u8]],⟨[.bool],.sc .bool,[]⟩,
 fun (code_:List Int)=>FnZipOrder code_⟩
theorem FnZipOrder.ev:∀d,Za9 C0 (hnd (tab [(18,Zbx.S),(22,Za3.S),(23,ZaI.S),(24,ZbM.S)])) Tryz.f5 (.seq .u (.seq .u (.seq .u (.seq .u (.seq (.seq (.reg [.bool] [(24,.sc .bool)]) .u) (.seq .u (.seq (.seq .u (.blk (.loopS ⟨[.str,.int .i64,.int .i64,.list [.str,.int .i64,.int .i64,.int .i64,.int .i64,.int .i64,.int .i64,.str]],[(3,.full 0),(4,.sc .str),(5,.sc (.int .i64)),(6,.sc (.int .i64))],[.arr [.str,.int .i64,.int .i64,.int .i64,.int .i64,.int .i64,.int .i64,.str]]⟩ (fun ((s,at_,i,list):Str×Int×Int×List (Str×Int×Int×Int×Int×Int×Int×Str))=>((list.length:Int)-i).toNat+1) 0 ⟨[.str,.int .i64],[(4,.sc .str),(5,.sc (.int .i64))],[]⟩ (.seq .u (.seq (.blk (.seq .u (.seq (.seq (.reg [.bool] [(52,.sc .bool)]) .u) .u))) .u))))) (.seq (.reg [.bool] [(2,.sc .bool)]) .u)))))))) FnZipOrder.S d=FnZipOrder.S.F d:=fun _=>by kernel_rfl
def FnZipCut.S:ZaR:=⟨0,[.sc (.list [.int .u8])],[],[.list [.int .u8]],⟨[.bool],.sc .bool,[]⟩,
 fun (code_:List Int)=>FnZipCut code_⟩
theorem FnZipCut.ev:∀d,Za9 C0 (hnd (tab [(18,Zbx.S),(22,Za3.S),(23,ZaI.S),(29,ZbE.S)])) Tryz.f7 (.seq .u (.seq .u (.seq .u (.seq .u (.seq (.seq (.reg [.bool] [(25,.sc .bool)]) .u) (.seq .u (.seq .u (.seq .u (.seq (.reg [.bool] [(2,.sc .bool)]) .u))))))))) FnZipCut.S d=FnZipCut.S.F d:=fun _=>by kernel_rfl
end Ev
end
section
open Go Go.Proofs
set_option maxRecDepth 100000
namespace Ev
set_option maxHeartbeats 1000000
def FnZip.S:ZaR:=⟨0,[.sc (.list [.int .u8])],[],[.list [.int .u8]],⟨[.bool],.sc .bool,[]⟩,
 fun (code_:List Int)=>FnZip code_⟩
theorem FnZip.ev:∀d,Za9 C0 (hnd (tab [(18,Zbx.S),(22,Za3.S),(23,ZaI.S),(27,Zbt.S),(29,ZbE.S),(30,ZcY.S),(31,Zap.S),(32,Zct.S)])) Tryz.f9 (.seq .u (.seq .u (.seq .u (.seq .u (.seq (.seq (.reg [.bool] [(31,.sc .bool)]) (.cond (.seq (.reg [.bool] [(2,.sc .bool)]) .u) .u)) (.seq .u (.seq .u (.seq (.seq .u (.blk (.loop ⟨[.str,.bool,.int .i64,.int .i64,.list [.str,.int .i64,.int .i64,.int .i64,.int .i64,.int .i64,.int .i64,.str],.list [.str,.int .i64,.int .i64,.int .i64,.int .i64,.int .i64,.int .i64,.str]],[(3,.full 0),(4,.sc .str),(5,.full 1),(6,.sc .bool),(7,.sc (.int .i64)),(8,.sc (.int .i64))],[.arr [.str,.int .i64,.int .i64,.int .i64,.int .i64,.int .i64,.int .i64,.str],.arr [.str,.int .i64,.int .i64,.int .i64,.int .i64,.int .i64,.int .i64,.str]]⟩ (fun ((s,ok,n,i,list,x):Str×Bool×Int×Int×(List (Str×Int×Int×Int×Int×Int×Int×Str))×List (Str×Int×Int×Int×Int×Int×Int×Str))=>((list.length:Int)-i).toNat+1) 0 ⟨[.str,.bool,.int .i64,.list [.str,.int .i64,.int .i64,.int .i64,.int .i64,.int .i64,.int .i64,.str],.list [.str,.int .i64,.int .i64,.int .i64,.int .i64,.int .i64,.int .i64,.str]],[(3,.full 0),(4,.sc .str),(5,.full 1),(6,.sc .bool),(7,.sc (.int .i64))],[.arr [.str,.int .i64,.int .i64,.int .i64,.int .i64,.int .i64,.int .i64,.str],.arr [.str,.int .i64,.int .i64,.int .i64,.int .i64,.int .i64,.int .i64,.str]]⟩ .u))) (.seq (.reg [.bool] [(2,.sc .bool)]) .u))))))))) FnZip.S d=FnZip.S.F d:=fun _=>by kernel_rfl
def FnZipGet.S:ZaR:=⟨0,[.sc (.list [.int .u8])],[],[.list [.int .u8]],⟨[.bool],.sc .bool,[]⟩,
 fun (code_:List Int)=>FnZipGet code_⟩
theorem FnZipGet.ev:∀d,Za9 C0 (hnd (tab [(18,Zbx.S),(29,ZbE.S),(30,ZcY.S),(32,Zct.S),(45,Zcm.S),(46,ZaW.S)])) Tryz.f14 (.seq .u (.seq .u (.seq .u (.seq .u (.seq .u (.seq (.seq (.reg [.bool] [(37,.sc .bool)]) (.cond (.seq (.reg [.bool] [(2,.sc .bool)]) .u) .u)) (.seq .u (.seq (.reg [.bool] [(2,.sc .bool)]) .u)))))))) FnZipGet.S d=FnZipGet.S.F d:=fun _=>by kernel_rfl
def FnZipHeads.S:ZaR:=⟨0,[.sc (.list [.int .u8]),.sc (.list [.int .u8])],[],[.list [.int .u8],.list [.int .u8]],⟨[.bool],.sc .bool,[]⟩,
 fun ((code_,more):List Int×List Int)=>FnZipHeads code_ more⟩
theorem FnZipHeads.ev:∀d,Za9 C0 (hnd (tab [(18,Zbx.S),(22,Za3.S),(23,ZaI.S),(27,Zbt.S),(29,ZbE.S)])) Tryz.f8 (.seq .u (.seq (.seq (.reg [.bool] [(19,.sc .bool)]) .u) (.seq .u (.seq .u (.seq (.seq (.reg [.bool] [(31,.sc .bool)]) .u) (.seq .u (.seq (.seq .u (.blk (.loop ⟨[.list [.int .u8],.str,.int .i64,.int .i64,.list [.str,.int .i64,.int .i64,.int .i64,.int .i64,.int .i64,.int .i64,.str]],[(1,.sc (.list [.int .u8])),(5,.full 0),(6,.sc .str),(7,.sc (.int .i64)),(8,.sc (.int .i64))],[.arr [.str,.int .i64,.int .i64,.int .i64,.int .i64,.int .i64,.int .i64,.str]]⟩ (fun ((more1,s,at_,i,list):List Int×Str×Int×Int×List (Str×Int×Int×Int×Int×Int×Int×Str))=>((list.length:Int)-i).toNat+1) 0 ⟨[.list [.int .u8],.str,.int .i64],[(1,.sc (.list [.int .u8])),(6,.sc .str),(7,.sc (.int .i64))],[]⟩ .u))) .u))))))) FnZipHeads.S d=FnZipHeads.S.F d:=fun _=>by kernel_rfl
end Ev
end

/- That the evaluator says of each function what it computes, and so that the program does. Conditions: none. -/
import Derived.Test.YtadeffpcedlalaaGreatDoorProg
import Derived.Sort.Grow
import Derived.KernelRfl
import Derived.Test.YtadeffpcedlalaaGreatDoorTGP0
set_option linter.unusedVariables false
set_option linter.unusedSimpArgs false
section
namespace Ev
open Go Go.Proofs Go.Shelf Go.RowKit Go.Lib Go.Sort
set_option maxRecDepth 100000
theorem Znx (s:ByteArray) (w:World):Calls Tryz.prog 103 #[.string s] w fun e w'=>e=.returned (.bool false)∧∃q,w'=w.drewN q:=by
 go_enter Tryz.func103,Tryz.ntmps103
 go_wp2
 go_ret
 exact ⟨rfl,0,rfl⟩
theorem ZrQ (s t:ByteArray) (w:World):Calls Tryz.prog 59 #[.string s,.string t] w fun e w'=>e=.returned (.int .i64 (Ztn s t))∧∃q,w'=w.drewN q:=by
 have h:=fun u W=>Znx u W
 have e_4:∀args w,(callFunc 103 args).run Tryz.prog w=.ok (.enter 103 args) w:=enters_of Tryz.func103 (by kernel_rfl) rfl
 go_enter Tryz.func59,Tryz.ntmps59
 go_wp2_with (go_at_fn 103;refine (h _ _).mono ?_;rintro e w' ⟨rfl,q,rfl⟩)
 all_goals (go_ret;refine ⟨?_,_,rfl⟩)
 ·rename_i hh
  show Ending.returned (.int .i64 (-1))=_
  unfold Ztn
  rw [if_pos hh]
 ·rename_i h2
  have h1:Op.bytesLess s.toList t.toList=false:=by assumption
  show Ending.returned (.int .i64 1)=_
  unfold Ztn
  rw [if_neg (by rw [h1];simp),if_pos]
  cases k:Op.bytesLess t.toList s.toList with
  | true=>rfl
  | false=>rw [Zdu _ _ h1 k,beq_self_eq_true] at h2;cases h2
 ·rename_i h2
  have h1:Op.bytesLess s.toList t.toList=false:=by assumption
  show Ending.returned (.int .i64 0)=_
  unfold Ztn
  have he:s.toList=t.toList:=by
   cases q:(s.toList==t.toList) with
   | true=>exact eq_of_beq q
   | false=>rw [q] at h2;cases h2
  rw [he,ZcW,if_neg (by simp),if_neg (by simp)]
theorem ZpR (a b c d:ByteArray) (w:World):Calls Tryz.prog 58 #[.agg #[.string a,.string b],.agg #[.string c,.string d]] w fun e w'=>e=.returned (.int .i64 (Ztn a c))∧∃q os',w'=grow (w.drewN q) os':=by
 have h:=fun u v W=>ZrQ u v W
 have e_3:∀args w,(callFunc 59 args).run Tryz.prog w=.ok (.enter 59 args) w:=enters_of Tryz.func59 (by kernel_rfl) rfl
 go_enter Tryz.func58,Tryz.ntmps58
 go_wp2_with (go_at_fn 59;refine (h _ _ _).mono ?_;rintro e w' ⟨rfl,q,rfl⟩)
 go_ret
 exact ⟨rfl,q,_,by rw [alloc_eq_grow,alloc_eq_grow,grow_grow];rfl⟩
end Ev
end
section
open Go Go.Proofs
set_option maxRecDepth 100000
namespace Ev
def Zts:List (Nat×TI):=[
 (2,⟨.int .i64,1,8,[.int .i64 0],some [.int .i64]⟩),
 (3,⟨.int .i64,1,8,[.int .i64 0],some [.int .i64]⟩),
 (4,⟨.bool,1,1,[.bool false],some [.bool]⟩),
 (5,⟨.int .u8,1,1,[.int .u8 0],some [.int .u8]⟩),
 (6,⟨.int .u8,1,1,[.int .u8 0],some [.int .u8]⟩),
 (7,⟨.struct [(0,1,false),(1,1,false),(2,1,false),(3,1,false)],4,24,[.int .i64 0,.int .i64 0,.bool false,.int .u8 0],some [.int .i64,.int .i64,.bool,.int .u8]⟩),
 (8,⟨.struct [(0,1,false),(1,1,false),(2,1,false),(3,1,false)],4,24,[.int .i64 0,.int .i64 0,.bool false,.int .u8 0],some [.int .i64,.int .i64,.bool,.int .u8]⟩),
 (9,⟨.str,1,16,[.str []],some [.str]⟩),
 (10,⟨.str,1,16,[.str []],some [.str]⟩),
 (11,⟨.str,1,16,[.str []],some [.str]⟩),
 (12,⟨.int .u64,1,8,[.int .u64 0],some [.int .u64]⟩),
 (13,⟨.struct [(0,1,false),(1,1,false)],2,24,[.str [],.int .u64 0],some [.str,.int .u64]⟩),
 (14,⟨.struct [(0,1,false),(1,1,false)],2,24,[.str [],.int .u64 0],some [.str,.int .u64]⟩),
 (15,⟨.ptr 242,1,8,[.nilp],none⟩),
 (16,⟨.ptr 245,1,8,[.nilp],none⟩),
 (17,⟨.ptr 252,1,8,[.nilp],none⟩),
 (18,⟨.struct [(0,1,false)],1,8,[.nilp],none⟩),
 (19,⟨.struct [(0,1,false)],1,8,[.nilp],none⟩),
 (21,⟨.int .i32,1,4,[.int .i32 0],some [.int .i32]⟩),
 (22,⟨.slice 5,1,24,[.nilsl],some [.ints .u8]⟩),
 (23,⟨.slice 28,1,24,[.nilsl],none⟩),
 (27,⟨.struct [(0,1,false),(1,1,false)],2,32,[.str [],.str []],some [.str,.str]⟩),
 (28,⟨.struct [(0,1,false),(1,1,false)],2,32,[.str [],.str []],some [.str,.str]⟩),
 (29,⟨.struct [(0,1,false),(1,1,false),(2,1,false),(3,1,false),(4,1,false),(5,1,false)],6,48,[.int .i64 0,.int .i64 0,.int .i64 0,.int .i64 0,.int .i64 0,.int .i64 0],some [.int .i64,.int .i64,.int .i64,.int .i64,.int .i64,.int .i64]⟩),
 (30,⟨.struct [(0,1,false),(1,1,false),(2,1,false),(3,1,false),(4,1,false),(5,1,false)],6,48,[.int .i64 0,.int .i64 0,.int .i64 0,.int .i64 0,.int .i64 0,.int .i64 0],some [.int .i64,.int .i64,.int .i64,.int .i64,.int .i64,.int .i64]⟩),
 (31,⟨.struct [(0,1,false),(1,6,true),(7,1,false)],8,80,[.str [],.int .i64 0,.int .i64 0,.int .i64 0,.int .i64 0,.int .i64 0,.int .i64 0,.str []],some [.str,.int .i64,.int .i64,.int .i64,.int .i64,.int .i64,.int .i64,.str]⟩),
 (32,⟨.struct [(0,1,false),(1,6,true),(7,1,false)],8,80,[.str [],.int .i64 0,.int .i64 0,.int .i64 0,.int .i64 0,.int .i64 0,.int .i64 0,.str []],some [.str,.int .i64,.int .i64,.int .i64,.int .i64,.int .i64,.int .i64,.str]⟩),
 (33,⟨.slice 32,1,24,[.nilsl],none⟩),
 (51,⟨.struct [(0,1,false),(1,1,false)],2,32,[.str [],.str []],some [.str,.str]⟩),
 (52,⟨.struct [(0,1,false),(1,1,false)],2,32,[.str [],.str []],some [.str,.str]⟩),
 (63,⟨.ptr 105,1,8,[.nilp],none⟩),
 (65,⟨.slice 9,1,24,[.nilsl],none⟩),
 (92,⟨.slice 3,1,24,[.nilsl],some [.ints .i64]⟩),
 (104,⟨.struct [(0,1,false),(1,1,false)],2,32,[.nilsl,.int .i64 0],some [.ints .u8,.int .i64]⟩),
 (105,⟨.struct [(0,1,false),(1,1,false)],2,32,[.nilsl,.int .i64 0],some [.ints .u8,.int .i64]⟩),
 (107,⟨.ptr 109,1,8,[.nilp],none⟩),
 (108,⟨.struct [(0,1,false),(1,1,false)],2,32,[.nilp,.nilsl],none⟩),
 (109,⟨.struct [(0,1,false),(1,1,false)],2,32,[.nilp,.nilsl],none⟩),
 (119,⟨.int .u64,1,8,[.int .u64 0],some [.int .u64]⟩),
 (123,⟨.ptr 125,1,8,[.nilp],none⟩),
 (124,⟨.struct [(0,1,false),(1,1,false),(2,1,false)],3,32,[.str [],.int .i64 0,.bool false],some [.str,.int .i64,.bool]⟩),
 (125,⟨.struct [(0,1,false),(1,1,false),(2,1,false)],3,32,[.str [],.int .i64 0,.bool false],some [.str,.int .i64,.bool]⟩),
 (138,⟨.ptr 5,1,8,[.nilp],none⟩),
 (140,⟨.int .i64,1,8,[.int .i64 0],some [.int .i64]⟩),
 (147,⟨.int .u32,1,4,[.int .u32 0],some [.int .u32]⟩),
 (149,⟨.int .u64,1,8,[.int .u64 0],some [.int .u64]⟩),
 (155,⟨.map 190 3,1,8,[.undef],none⟩),
 (156,⟨.map 190 3,1,8,[.undef],none⟩),
 (159,⟨.struct [(0,1,false),(1,1,false)],2,48,[.nilsl,.nilsl],some [.ints .i64,.ints .i64]⟩),
 (160,⟨.struct [(0,1,false),(1,1,false)],2,48,[.nilsl,.nilsl],some [.ints .i64,.ints .i64]⟩),
 (162,⟨.struct [(0,1,false),(1,1,false),(2,1,false)],3,24,[.int .i64 0,.int .i64 0,.int .i64 0],some [.int .i64,.int .i64,.int .i64]⟩),
 (163,⟨.struct [(0,1,false),(1,1,false),(2,1,false)],3,24,[.int .i64 0,.int .i64 0,.int .i64 0],some [.int .i64,.int .i64,.int .i64]⟩),
 (167,⟨.ptr 169,1,8,[.nilp],none⟩),
 (168,⟨.struct [(0,1,false),(1,1,false)],2,32,[.nilsl,.int .i64 0],some [.ints .u8,.int .i64]⟩),
 (169,⟨.struct [(0,1,false),(1,1,false)],2,32,[.nilsl,.int .i64 0],some [.ints .u8,.int .i64]⟩),
 (172,⟨.slice 163,1,24,[.nilsl],none⟩),
 (182,⟨.int .u64,1,8,[.int .u64 0],some [.int .u64]⟩),
 (186,⟨.ptr 3,1,8,[.nilp],none⟩),
 (189,⟨.struct [(0,1,false),(1,1,false)],2,16,[.int .i64 0,.int .i64 0],some [.int .i64,.int .i64]⟩),
 (190,⟨.struct [(0,1,false),(1,1,false)],2,16,[.int .i64 0,.int .i64 0],some [.int .i64,.int .i64]⟩),
 (200,⟨.ptr 182,1,8,[.nilp],none⟩),
 (203,⟨.ptr 205,1,8,[.nilp],none⟩),
 (204,⟨.struct [(0,1,false),(1,1,false),(2,1,false)],3,32,[.str [],.int .i64 0,.bool false],some [.str,.int .i64,.bool]⟩),
 (205,⟨.struct [(0,1,false),(1,1,false),(2,1,false)],3,32,[.str [],.int .i64 0,.bool false],some [.str,.int .i64,.bool]⟩),
 (208,⟨.slice 210,1,24,[.nilsl],none⟩),
 (209,⟨.struct [(0,1,false),(1,1,false)],2,32,[.int .i64 0,.nilsl],some [.int .i64,.ints .i64]⟩),
 (210,⟨.struct [(0,1,false),(1,1,false)],2,32,[.int .i64 0,.nilsl],some [.int .i64,.ints .i64]⟩),
 (220,⟨.ptr 222,1,8,[.nilp],none⟩),
 (221,⟨.struct [(0,1,false),(1,1,false),(2,1,false)],3,40,[.nilsl,.int .i64 0,.int .i64 0],some [.ints .u8,.int .i64,.int .i64]⟩),
 (222,⟨.struct [(0,1,false),(1,1,false),(2,1,false)],3,40,[.nilsl,.int .i64 0,.int .i64 0],some [.ints .u8,.int .i64,.int .i64]⟩),
 (227,⟨.struct [(0,1,false),(1,1,false)],2,2,[.int .u8 0,.int .u8 0],some [.int .u8,.int .u8]⟩),
 (228,⟨.struct [(0,1,false),(1,1,false)],2,2,[.int .u8 0,.int .u8 0],some [.int .u8,.int .u8]⟩),
 (236,⟨.slice 238,1,24,[.nilsl],none⟩),
 (237,⟨.struct [(0,1,false),(1,1,false),(2,1,false)],3,40,[.int .i64 0,.int .i64 0,.nilsl],some [.int .i64,.int .i64,.ints .i64]⟩),
 (238,⟨.struct [(0,1,false),(1,1,false),(2,1,false)],3,40,[.int .i64 0,.int .i64 0,.nilsl],some [.int .i64,.int .i64,.ints .i64]⟩),
 (241,⟨.struct [(0,1,false),(1,1,false),(2,1,false),(3,1,false)],4,40,[.nilp,.nilp,.nilp,.str []],none⟩),
 (242,⟨.struct [(0,1,false),(1,1,false),(2,1,false),(3,1,false)],4,40,[.nilp,.nilp,.nilp,.str []],none⟩),
 (246,⟨.int .u8,1,1,[.int .u8 0],some [.int .u8]⟩),
 (247,⟨.int .u8,1,1,[.int .u8 0],some [.int .u8]⟩),
 (249,⟨.int .i32,1,4,[.int .i32 0],some [.int .i32]⟩),
 (250,⟨.int .i32,1,4,[.int .i32 0],some [.int .i32]⟩),
 (251,⟨.struct [(0,1,false),(1,1,false),(2,1,false),(3,1,false),(4,1,false),(5,1,false),(6,1,false),(7,1,false),(8,1,false),(9,1,false),(10,1,false)],11,48,[.int .u64 0,.int .u64 0,.int .u32 0,.int .u8 0,.int .u8 0,.int .u8 0,.int .u8 0,.undef,.nilp,.int .i32 0,.int .i32 0],none⟩),
 (252,⟨.struct [(0,1,false),(1,1,false),(2,1,false),(3,1,false),(4,1,false),(5,1,false),(6,1,false),(7,1,false),(8,1,false),(9,1,false),(10,1,false)],11,48,[.int .u64 0,.int .u64 0,.int .u32 0,.int .u8 0,.int .u8 0,.int .u8 0,.int .u8 0,.undef,.nilp,.int .i32 0,.int .i32 0],none⟩)]
theorem Zsg:tisC Tryz.prog Zts=true:=by kernel_rfl
theorem nm:Tryz.prog.follows .mixedOrders=true:=by kernel_rfl
def eqTab:List (Nat×FT):=[(28,[.str,.str]),(32,[.str,.int .i64,.int .i64,.int .i64,.int .i64,.int .i64,.int .i64,.str]),(190,[.int .i64,.int .i64])]
theorem ZsS:eqsC Tryz.prog eqTab=true:=by kernel_rfl
theorem Zpi:ZqK Tryz.prog Zts=true:=by kernel_rfl
def ZtX:List (Nat×List AV):=[(0,[.ro [.int .i64] [16,17,18,0,8,7,9,6,10,5,11,4,12,3,13,2,14,1,15]])]
def C0:Ctx:=⟨Zp0 Zts,Zmp ZtX,eqOf eqTab⟩
theorem ZbY:Zey Tryz.prog C0:=Ztt rfl Zsg nm rfl ZsS Zpi
end Ev
end
section
open Go Go.Proofs
set_option maxRecDepth 100000
namespace Ev
set_option maxHeartbeats 1000000
def Za1.S:Zbb:=⟨0,[.sc (.int .i64),.sc (.int .i64),.sc (.int .i64)],[],[.int .i64,.int .i64,.int .i64],⟨[.bool],.sc .bool,[]⟩,
 fun ((n,low,high):Int×Int×Int)=>Za1 n low high⟩
theorem Za1.ev:∀d,ZbT C0 (hnd (tab [])) Tryz.f104 (.seq .u (.seq (.reg [.bool] [(6,.sc .bool)]) .u)) Za1.S d=Za1.S.F d:=fun _=>by kernel_rfl
theorem Za1.sound:Zak Tryz.prog C0 104 Za1.S:=sE ZbY Za1.ev (Zas trivial) Tryz.func104
def Zb4.S:Zbb:=⟨0,[.sc .str],[],[.str],⟨[.bool],.sc .bool,[]⟩,
 fun (s:Str)=>Zb4 s⟩
theorem Zb4.ev:∀d,ZbT C0 (hnd (tab [(104,Za1.S)])) Tryz.f96 (.seq .u (.seq (.seq .u (.blk (.loopS ⟨[.str,.int .i64,.int .i64],[(0,.sc .str),(6,.sc (.int .i64)),(7,.sc (.int .i64))],[]⟩ (fun ((s1,t,t1):Str×Int×Int)=>(t-t1).toNat+1) 0 ⟨[.str],[(0,.sc .str)],[]⟩ (.seq .u (.seq .u (.seq (.blk (.seq .u (.seq .u (.seq (.reg [.bool] [(38,.sc .bool)]) .u)))) .u)))))) (.seq (.reg [.bool] [(2,.sc .bool)]) .u))) Zb4.S d=Zb4.S.F d:=fun _=>by kernel_rfl
theorem Zb4.sound:Zak Tryz.prog C0 96 Zb4.S:=sE ZbY Zb4.ev (Zas ⟨Za1.sound,trivial⟩) Tryz.func96
def Zpx.S:Zbb:=⟨0,[.sc (.int .i64),.sc (.int .i64),.sc (.int .i64)],[],[.int .i64,.int .i64,.int .i64],⟨[.bool],.sc .bool,[]⟩,
 fun ((n,low,high):Int×Int×Int)=>Zpx n low high⟩
theorem Zpx.ev:∀d,ZbT C0 (hnd (tab [])) Tryz.f88 (.seq .u (.seq (.reg [.bool] [(6,.sc .bool)]) .u)) Zpx.S d=Zpx.S.F d:=fun _=>by kernel_rfl
theorem Zpx.sound:Zak Tryz.prog C0 88 Zpx.S:=sE ZbY Zpx.ev (Zas trivial) Tryz.func88
def Zc9.S:Zbb:=⟨0,[.sc .str,.sc (.int .u8),.sc (.int .i64)],[],[.str,.int .u8,.int .i64],⟨[.list [.str]],.full 0,[.arr [.str]]⟩,
 fun ((s,b,most):Str×Int×Int)=>Zc9 s b most⟩
theorem Zc9.ev:∀d,ZbT C0 (hnd (tab [])) Tryz.f85 (.seq .u (.seq .u (.seq .u (.seq (.seq .u (.blk (.loop ⟨[.str,.int .u8,.int .i64,.int .i64,.int .i64,.list [.str]],[(0,.sc .str),(1,.sc (.int .u8)),(2,.sc (.int .i64)),(7,.full 0),(8,.sc (.int .i64)),(9,.sc (.int .i64))],[.arr [.str]]⟩ (fun ((s1,b1,most1,from_,i,out):Str×Int×Int×Int×Int×List Str)=>((s1.length:Int)-i).toNat+1) 0 ⟨[.str,.int .i64,.list [.str]],[(0,.sc .str),(7,.full 0),(8,.sc (.int .i64))],[.arr [.str]]⟩ (.seq (.seq (.reg [.bool] [(20,.sc .bool)]) .u) .u)))) .u)))) Zc9.S d=Zc9.S.F d:=fun _=>by kernel_rfl
theorem Zc9.sound:Zak Tryz.prog C0 85 Zc9.S:=sE ZbY Zc9.ev (Zas trivial) Tryz.func85
def Zaq.S:Zbb:=⟨0,[.sc .str],[],[.str],⟨[.bool],.sc .bool,[]⟩,
 fun (s:Str)=>Zaq s⟩
theorem Zaq.ev:∀d,ZbT C0 (hnd (tab [(85,Zc9.S),(88,Zpx.S)])) Tryz.f51 (.seq .u (.seq .u (.seq (.seq .u (.blk (.loopS ⟨[.int .i64,.list [.str]],[(3,.full 0),(4,.sc (.int .i64))],[.arr [.str]]⟩ (fun ((i,list):Int×List Str)=>((list.length:Int)-i).toNat+1) 0 ⟨[.list [.str]],[(3,.full 0)],[.arr [.str]]⟩ (.seq .u (.seq (.blk (.seq .u (.seq (.seq .u (.blk (.loopS ⟨[.int .i64,.str,.int .i64,.list [.str]],[(3,.full 0),(4,.sc (.int .i64)),(5,.sc .str),(6,.sc (.int .i64))],[.arr [.str]]⟩ (fun ((i1,w,k,list1):Int×Str×Int×List Str)=>((w.length:Int)-k).toNat+1) 2 ⟨[.int .i64,.str,.list [.str]],[(3,.full 0),(4,.sc (.int .i64)),(5,.sc .str)],[.arr [.str]]⟩ (.seq .u (.seq (.blk (.seq (.reg [.bool] [(68,.sc .bool)]) .u)) .u))))) (.seq (.reg [.bool] [(80,.sc .bool)]) .u)))) .u))))) .u))) Zaq.S d=Zaq.S.F d:=fun _=>by kernel_rfl
theorem Zaq.sound:Zak Tryz.prog C0 51 Zaq.S:=sE ZbY Zaq.ev (Zas ⟨Zc9.sound,Zpx.sound,trivial⟩) Tryz.func51
def ZcX.S:Zbb:=⟨0,[.sc .str,.sc .str],[],[.str,.str],⟨[.bool],.sc .bool,[]⟩,
 fun ((a,b):Str×Str)=>ZcX a b⟩
theorem ZcX.ev:∀d,ZbT C0 (hnd (tab [])) Tryz.f52 (.seq .u (.seq (.reg [.bool] [(4,.sc .bool)]) .u)) ZcX.S d=ZcX.S.F d:=fun _=>by kernel_rfl
theorem ZcX.sound:Zak Tryz.prog C0 52 ZcX.S:=sE ZbY ZcX.ev (Zas trivial) Tryz.func52
def Zag.S:Zbb:=⟨0,[.sc (.list [.str,.str])],[],[.list [.str,.str]],⟨[.bool],.sc .bool,[]⟩,
 fun (xs:List (Str×Str))=>Zag xs⟩
theorem Zag.ev:∀d,ZbT C0 (hnd (tab [(51,Zaq.S),(52,ZcX.S)])) Tryz.f17 (.seq .u (.seq (.seq .u (.blk (.loopS ⟨[.list [.str,.str],.int .i64],[(0,.sc (.list [.str,.str])),(3,.sc (.int .i64))],[]⟩ (fun ((t,i):(List (Str×Str))×Int)=>((t.length:Int)-i).toNat+1) 0 ⟨[.list [.str,.str]],[(0,.sc (.list [.str,.str]))],[]⟩ (.seq .u (.seq (.blk (.seq (.seq (.reg [.bool] [(44,.sc .bool)]) .u) (.seq .u (.blk (.loopS ⟨[.list [.str,.str],.int .i64,.int .i64],[(0,.sc (.list [.str,.str])),(3,.sc (.int .i64)),(4,.sc (.int .i64))],[]⟩ (fun ((t1,i1,k):(List (Str×Str))×Int×Int)=>((t1.length:Int)-k).toNat+1) 2 ⟨[.list [.str,.str],.int .i64],[(0,.sc (.list [.str,.str])),(3,.sc (.int .i64))],[]⟩ .u))))) .u))))) .u)) Zag.S d=Zag.S.F d:=fun _=>by kernel_rfl
theorem Zag.sound:Zak Tryz.prog C0 17 Zag.S:=sE ZbY Zag.ev (Zas ⟨Zaq.sound,ZcX.sound,trivial⟩) Tryz.func17
def ZbM.S:Zbb:=⟨0,[.sc .str,.sc .str],[],[.str,.str],⟨[.bool],.sc .bool,[]⟩,
 fun ((s,p):Str×Str)=>ZbM s p⟩
theorem ZbM.ev:∀d,ZbT C0 (hnd (tab [])) Tryz.f106 (.seq .u (.seq (.reg [.bool] [(4,.sc .bool)]) .u)) ZbM.S d=ZbM.S.F d:=fun _=>by kernel_rfl
theorem ZbM.sound:Zak Tryz.prog C0 106 ZbM.S:=sE ZbY ZbM.ev (Zas trivial) Tryz.func106
def Zbe.S:Zbb:=⟨0,[.sc .str,.sc .str],[],[.str,.str],⟨[.bool],.sc .bool,[]⟩,
 fun ((s,p):Str×Str)=>Zbe s p⟩
theorem Zbe.ev:∀d,ZbT C0 (hnd (tab [(106,ZbM.S)])) Tryz.f61 .u Zbe.S d=Zbe.S.F d:=fun _=>by kernel_rfl
theorem Zbe.sound:Zak Tryz.prog C0 61 Zbe.S:=sE ZbY Zbe.ev (Zas ⟨ZbM.sound,trivial⟩) Tryz.func61
def Zbw.S:Zbb:=Zf6
theorem Zbw.sound:Zak Tryz.prog C0 215 Zbw.S:=ZiI Tryz.func215 (by kernel_rfl) (by kernel_rfl) (by kernel_rfl) (by kernel_rfl)
def Zcw.S:Zbb:=Zgh
theorem Zcw.sound:Zak Tryz.prog C0 202 Zcw.S:=Zjc Tryz.func202 (by kernel_rfl) (by kernel_rfl) (by kernel_rfl) (by kernel_rfl)
def ZbL.S:Zbb:=⟨0,[.sc .str,.sc (.int .u8)],[],[.str,.int .u8],⟨[.int .i64],.sc (.int .i64),[]⟩,
 fun ((s,c):Str×Int)=>ZbL s c⟩
theorem ZbL.ev:∀d,ZbT C0 (hnd (tab [(215,Zbw.S)])) Tryz.f196 .u ZbL.S d=ZbL.S.F d:=fun _=>by kernel_rfl
theorem ZbL.sound:Zak Tryz.prog C0 196 ZbL.S:=sE ZbY ZbL.ev (Zas ⟨Zbw.sound,trivial⟩) Tryz.func196
def Zda.S:Zbb:=⟨0,[.sc .str,.cstr [47]],[],[.str],⟨[.int .i64],.sc (.int .i64),[]⟩,
 fun (s:Str)=>Zda s⟩
theorem Zda.ev:∀d,ZbT C0 (hnd (tab [(196,ZbL.S)])) Tryz.f173 (.seq .u (.seq .u (.seq (.blk (.seq (.reg [.bool] [(16,.sc .bool)]) .u)) .u))) Zda.S d=Zda.S.F d:=fun _=>by kernel_rfl
theorem Zda.sound:Zak Tryz.prog C0 173 Zda.S:=sE ZbY Zda.ev (Zas ⟨ZbL.sound,trivial⟩) Tryz.func173
def ZdR.S:Zbb:=⟨0,[.sc .str,.cstr [47]],[],[.str],⟨[.int .i64],.sc (.int .i64),[]⟩,
 fun (s:Str)=>ZdR s⟩
theorem ZdR.ev:∀d,ZbT C0 (hnd (tab [(173,Zda.S)])) Tryz.f176 .u ZdR.S d=ZdR.S.F d:=fun _=>by kernel_rfl
theorem ZdR.sound:Zak Tryz.prog C0 176 ZdR.S:=sE ZbY ZdR.ev (Zas ⟨Zda.sound,trivial⟩) Tryz.func176
def Zed.S:Zbb:=⟨0,[.sc .str,.cstr [47]],[],[.str],⟨[.int .i64],.sc (.int .i64),[]⟩,
 fun (s:Str)=>Zed s⟩
theorem Zed.ev:∀d,ZbT C0 (hnd (tab [(202,Zcw.S)])) Tryz.f175 .u Zed.S d=Zed.S.F d:=fun _=>by kernel_rfl
theorem Zed.sound:Zak Tryz.prog C0 175 Zed.S:=sE ZbY Zed.ev (Zas ⟨Zcw.sound,trivial⟩) Tryz.func175
def ZaN.S:Zbb:=⟨0,[.sc .str,.cstr [47],.cint .i64 0,.cint .i64 (-1)],[],[.str],⟨[.list [.str]],.sc (.list [.str]),[]⟩,
 fun (s:Str)=>ZaN s⟩
theorem ZaN.ev:∀d,ZbT C0 (hnd (tab [(175,Zed.S),(176,ZdR.S)])) Tryz.f136 (.seq .u (.seq .u (.seq .u (.join ⟨[.str,.int .i64],[(0,.sc .str),(1,.cstr [47]),(2,.cint .i64 0),(3,.sc (.int .i64))],[]⟩ .u (.seq .u (.seq .u (.seq .u (.seq .u (.seq (.blk (.loop ⟨[.str,.int .i64,.int .i64,.list [.str]],[(0,.sc .str),(1,.cstr [47]),(2,.cint .i64 0),(3,.sc (.int .i64)),(9,.full 0),(10,.sc (.int .i64))],[.arr [.str]]⟩ (fun ((s2,n1,i,a):Str×Int×Int×List Str)=>(n1-i).toNat+1) 0 ⟨[.str,.int .i64,.list [.str]],[(0,.sc .str),(9,.full 0),(10,.sc (.int .i64))],[.arr [.str]]⟩ .u)) .u))))))))) ZaN.S d=ZaN.S.F d:=fun _=>by kernel_rfl
theorem ZaN.sound:Zak Tryz.prog C0 136 ZaN.S:=sE ZbY ZaN.ev (Zas ⟨Zed.sound,ZdR.sound,trivial⟩) Tryz.func136
def ZdL.S:Zbb:=⟨0,[.sc .str,.cstr [47]],[],[.str],⟨[.list [.str]],.sc (.list [.str]),[]⟩,
 fun (s:Str)=>ZdL s⟩
theorem ZdL.ev:∀d,ZbT C0 (hnd (tab [(136,ZaN.S)])) Tryz.f95 .u ZdL.S d=ZdL.S.F d:=fun _=>by kernel_rfl
theorem ZdL.sound:Zak Tryz.prog C0 95 ZdL.S:=sE ZbY ZdL.ev (Zas ⟨ZaN.sound,trivial⟩) Tryz.func95
def Zat.S:Zbb:=⟨0,[.sc .str],[],[.str],⟨[.bool],.sc .bool,[]⟩,
 fun (s:Str)=>Zat s⟩
theorem Zat.ev:∀d,ZbT C0 (hnd (tab [(95,ZdL.S),(96,Zb4.S)])) Tryz.f49 (.seq .u (.seq .u (.seq (.seq .u (.blk (.loopS ⟨[.list [.str],.list [.str],.int .i64,.int .i64],[(3,.sc (.list [.str])),(8,.sc (.list [.str])),(9,.sc (.int .i64)),(10,.sc (.int .i64))],[]⟩ (fun ((parts,t,t1,t2):List Str×List Str×Int×Int)=>(t1-t2).toNat+1) 0 ⟨[.list [.str]],[(3,.sc (.list [.str]))],[]⟩ .u))) .u))) Zat.S d=Zat.S.F d:=fun _=>by kernel_rfl
theorem Zat.sound:Zak Tryz.prog C0 49 Zat.S:=sE ZbY Zat.ev (Zas ⟨ZdL.sound,Zb4.sound,trivial⟩) Tryz.func49
def ZbX.S:Zbb:=⟨0,[.sc (.list [.str])],[],[.list [.str]],⟨[.bool],.sc .bool,[]⟩,
 fun (xs:List Str)=>ZbX xs⟩
theorem ZbX.ev:∀d,ZbT C0 (hnd (tab [(61,Zbe.S)])) Tryz.f50 (.seq .u (.seq (.seq .u (.blk (.loopS ⟨[.list [.str],.list [.str],.int .i64,.int .i64],[(0,.sc (.list [.str])),(7,.sc (.list [.str])),(8,.sc (.int .i64)),(9,.sc (.int .i64))],[]⟩ (fun ((names,t,t1,t2):List Str×List Str×Int×Int)=>(t1-t2).toNat+1) 0 ⟨[],[],[]⟩ (.seq .u (.seq .u (.seq (.blk (.seq .u (.seq .u (.blk (.loopS ⟨[.list [.str],.str,.list [.str],.int .i64,.int .i64,.list [.str],.int .i64,.int .i64],[(0,.sc (.list [.str])),(4,.sc .str),(7,.sc (.list [.str])),(8,.sc (.int .i64)),(9,.sc (.int .i64)),(16,.sc (.list [.str])),(17,.sc (.int .i64)),(18,.sc (.int .i64))],[]⟩ (fun ((names1,a,t3,t4,t5,t6,t7,t8):List Str×Str×List Str×Int×Int×List Str×Int×Int)=>(t7-t8).toNat+1) 2 ⟨[.list [.str],.list [.str],.int .i64,.int .i64],[(0,.sc (.list [.str])),(7,.sc (.list [.str])),(8,.sc (.int .i64)),(9,.sc (.int .i64))],[]⟩ (.seq .u (.seq .u (.seq (.blk (.seq .u (.seq (.reg [.bool] [(36,.sc .bool)]) .u))) .u)))))))) .u)))))) .u)) ZbX.S d=ZbX.S.F d:=fun _=>by kernel_rfl
theorem ZbX.sound:Zak Tryz.prog C0 50 ZbX.S:=sE ZbY ZbX.ev (Zas ⟨Zbe.sound,trivial⟩) Tryz.func50
def Zal.S:Zbb:=⟨0,[.sc (.list [.str,.str])],[],[.list [.str,.str]],⟨[.bool],.sc .bool,[]⟩,
 fun (xs:List (Str×Str))=>Zal xs⟩
theorem Zal.ev:∀d,ZbT C0 (hnd (tab [(49,Zat.S),(50,ZbX.S)])) Tryz.f16 (.seq .u (.seq .u (.seq (.seq .u (.blk (.loopS ⟨[.list [.str,.str],.list [.str,.str],.int .i64,.int .i64,.list [.str]],[(0,.sc (.list [.str,.str])),(3,.full 0),(7,.sc (.list [.str,.str])),(8,.sc (.int .i64)),(9,.sc (.int .i64))],[.arr [.str]]⟩ (fun ((t,t1,t2,t3,paths):(List (Str×Str))×(List (Str×Str))×Int×Int×List Str)=>(t2-t3).toNat+1) 0 ⟨[.list [.str,.str],.list [.str]],[(0,.sc (.list [.str,.str])),(3,.full 0)],[.arr [.str]]⟩ (.seq .u (.seq .u (.seq (.blk (.seq .u (.seq (.seq (.reg [.bool] [(38,.sc .bool)]) .u) .u))) .u)))))) (.seq (.reg [.bool] [(2,.sc .bool)]) .u)))) Zal.S d=Zal.S.F d:=fun _=>by kernel_rfl
theorem Zal.sound:Zak Tryz.prog C0 16 Zal.S:=sE ZbY Zal.ev (Zas ⟨Zat.sound,ZbX.sound,trivial⟩) Tryz.func16
def ZcU.S:Zbb:=⟨0,[.agg [.sc (.int .i64),.sc (.int .i64)]],[],[.int .i64,.int .i64],⟨[.bool],.sc .bool,[]⟩,
 fun ((num,bits):Int×Int)=>ZcU num bits⟩
theorem ZcU.ev:∀d,ZbT C0 (hnd (tab [(104,Za1.S)])) Tryz.f210 (.seq .u (.seq (.reg [.bool] [(2,.sc .bool)]) .u)) ZcU.S d=ZcU.S.F d:=fun _=>by kernel_rfl
theorem ZcU.sound:Zak Tryz.prog C0 210 ZcU.S:=sE ZbY ZcU.ev (Zas ⟨Za1.sound,trivial⟩) Tryz.func210
def Zdf.S:Zbb:=⟨1,[.ptr 0 0,.sc (.int .i64),.sc (.int .i64)],[.box [.full 1,.sc (.int .i64)],.arr [.int .u8]],[.int .i64,.int .i64,.int .i64,.list [.int .u8]],⟨[.int .i64,.list [.int .u8]],.tup [],[.box [.full 1,.sc (.int .i64)],.arr [.int .u8]]⟩,
 fun ((num,bits,many,b):Int×Int×Int×List Int)=>Zdf num bits many b⟩
theorem Zdf.ev:∀d,ZbT C0 (hnd (tab [])) Tryz.f162 (.seq .u (.blk (.loop ⟨[.int .i64,.int .i64,.int .i64,.int .i64,.list [.int .u8]],[(0,.ptr 0 0),(1,.sc (.int .i64)),(7,.sc (.int .i64)),(8,.sc (.int .i64))],[.box [.full 1,.sc (.int .i64)],.arr [.int .u8]]⟩ (fun ((num1,t,t1,o,o1):Int×Int×Int×Int×List Int)=>(t-t1).toNat+1) 0 ⟨[.int .i64,.list [.int .u8]],[],[.box [.full 1,.sc (.int .i64)],.arr [.int .u8]]⟩ (.seq .u (.seq .u (.seq (.blk (.seq .u (.join ⟨[.int .i64,.int .i64,.int .i64,.int .i64,.int .i64,.list [.int .u8]],[(0,.ptr 0 0),(1,.sc (.int .i64)),(6,.sc (.int .i64)),(7,.sc (.int .i64)),(8,.sc (.int .i64))],[.box [.full 1,.sc (.int .i64)],.arr [.int .u8]]⟩ .u .u))) .u)))))) Zdf.S d=Zdf.S.F d:=fun _=>by kernel_rfl
theorem Zdf.sound:Zak Tryz.prog C0 162 Zdf.S:=sE ZbY Zdf.ev (Zas trivial) Tryz.func162
def Zgp.S:Zbb:=⟨1,[.ptr 0 0],[.box [.full 1,.sc (.int .i64)],.arr [.int .u8]],[.int .i64,.list [.int .u8]],⟨[.int .i64,.list [.int .u8]],.tup [],[.box [.full 1,.sc (.int .i64)],.arr [.int .u8]]⟩,
 fun ((many,b):Int×List Int)=>Zgp many b⟩
theorem Zgp.ev:∀d,ZbT C0 (hnd (tab [])) Tryz.f163 .u Zgp.S d=Zgp.S.F d:=fun _=>by kernel_rfl
theorem Zgp.sound:Zak Tryz.prog C0 163 Zgp.S:=sE ZbY Zgp.ev (Zas trivial) Tryz.func163
def ZfR.S:Zbb:=⟨1,[.ptr 0 0],[.box [.sc .str,.sc (.int .i64),.sc .bool]],[.str,.int .i64,.bool],⟨[.int .i64,.str,.int .i64,.bool],.sc (.int .i64),[.box [.sc .str,.sc (.int .i64),.sc .bool]]⟩,
 fun ((s,at_,bad):Str×Int×Bool)=>ZfR s at_ bad⟩
theorem ZfR.ev:∀d,ZbT C0 (hnd (tab [])) Tryz.f112 .u ZfR.S d=ZfR.S.F d:=fun _=>by kernel_rfl
theorem ZfR.sound:Zak Tryz.prog C0 112 ZfR.S:=sE ZbY ZfR.ev (Zas trivial) Tryz.func112
def Zdh.S:Zbb:=⟨1,[.ptr 0 0,.sc (.int .i64)],[.box [.sc .str,.sc (.int .i64),.sc .bool]],[.int .i64,.str,.int .i64,.bool],⟨[.int .i64,.str,.int .i64,.bool],.sc (.int .i64),[.box [.sc .str,.sc (.int .i64),.sc .bool]]⟩,
 fun ((bits,s,at_,bad):Int×Str×Int×Bool)=>Zdh bits s at_ bad⟩
theorem Zdh.ev:∀d,ZbT C0 (hnd (tab [(112,ZfR.S)])) Tryz.f113 (.seq .u (.seq .u (.seq (.seq .u (.blk (.loop ⟨[.int .i64,.int .i64,.int .i64,.str,.int .i64,.bool],[(0,.ptr 0 0),(5,.sc (.int .i64)),(7,.sc (.int .i64)),(8,.sc (.int .i64))],[.box [.sc .str,.sc (.int .i64),.sc .bool]]⟩ (fun ((n,t,t1,o,o1,o2):Int×Int×Int×Str×Int×Bool)=>(t-t1).toNat+1) 0 ⟨[.int .i64,.str,.int .i64,.bool],[(5,.sc (.int .i64))],[.box [.sc .str,.sc (.int .i64),.sc .bool]]⟩ .u))) .u))) Zdh.S d=Zdh.S.F d:=fun _=>by kernel_rfl
theorem Zdh.sound:Zak Tryz.prog C0 113 Zdh.S:=sE ZbY Zdh.ev (Zas ⟨ZfR.sound,trivial⟩) Tryz.func113
def ZcQ.S:Zbb:=⟨1,[.ptr 0 0],[.box [.sc .str,.sc (.int .i64),.sc .bool]],[.str,.int .i64,.bool],⟨[.str,.int .i64,.bool],.tup [],[.box [.sc .str,.sc (.int .i64),.sc .bool]]⟩,
 fun ((s,at_,bad):Str×Int×Bool)=>ZcQ s at_ bad⟩
theorem ZcQ.ev:∀d,ZbT C0 (hnd (tab [(112,ZfR.S)])) Tryz.f118 (.blk (.loop ⟨[.str,.int .i64,.bool],[(0,.ptr 0 0)],[.box [.sc .str,.sc (.int .i64),.sc .bool]]⟩ (fun ((o,o1,o2):Str×Int×Bool)=>9) 0 ⟨[.str,.int .i64,.bool],[],[.box [.sc .str,.sc (.int .i64),.sc .bool]]⟩ .u)) ZcQ.S d=ZcQ.S.F d:=fun _=>by kernel_rfl
theorem ZcQ.sound:Zak Tryz.prog C0 118 ZcQ.S:=sE ZbY ZcQ.ev (Zas ⟨ZfR.sound,trivial⟩) Tryz.func118
def Za4.S:Zbb:=⟨0,[.sc (.int .i64),.sc (.int .i64)],[],[.int .i64,.int .i64],⟨[.int .i64],.sc (.int .i64),[]⟩,
 fun ((num,bits):Int×Int)=>Za4 num bits⟩
theorem Za4.ev:∀d,ZbT C0 (hnd (tab [(210,ZcU.S)])) Tryz.f191 (.seq .u (.seq .u (.seq .u (.seq (.seq .u (.blk (.loop ⟨[.int .i64,.int .i64,.int .i64,.int .i64],[(0,.sc (.int .i64)),(5,.sc (.int .i64)),(12,.sc (.int .i64)),(13,.sc (.int .i64))],[]⟩ (fun ((num1,out,t,t1):Int×Int×Int×Int)=>(t-t1).toNat+1) 0 ⟨[.int .i64],[(5,.sc (.int .i64))],[]⟩ .u))) .u)))) Za4.S d=Za4.S.F d:=fun _=>by kernel_rfl
theorem Za4.sound:Zak Tryz.prog C0 191 Za4.S:=sE ZbY Za4.ev (Zas ⟨ZcU.sound,trivial⟩) Tryz.func191
def Zau.S:Zbb:=⟨0,[.sc (.int .u32),.sc .str],[],[.int .u32,.str],⟨[.int .u32],.sc (.int .u32),[]⟩,
 fun ((crc_,text):Int×Str)=>Zau crc_ text⟩
theorem Zau.ev:∀d,ZbT C0 (hnd (tab [])) Tryz.f159 (.seq .u (.seq .u (.seq (.seq .u (.blk (.loop ⟨[.int .u32,.str,.int .i64],[(0,.sc (.int .u32)),(1,.sc .str),(5,.sc (.int .i64))],[]⟩ (fun ((crc_1,text1,k):Int×Str×Int)=>((text1.length:Int)-k).toNat+1) 0 ⟨[.int .u32],[(0,.sc (.int .u32))],[]⟩ (.seq .u (.seq (.blk (.seq .u (.seq .u (.blk (.loop ⟨[.int .u32,.str,.int .i64,.int .i64],[(0,.sc (.int .u32)),(1,.sc .str),(5,.sc (.int .i64)),(20,.sc (.int .i64))],[]⟩ (fun ((crc_2,text2,k1,t):Int×Str×Int×Int)=>(8-t).toNat+1) 2 ⟨[.int .u32,.str,.int .i64],[(0,.sc (.int .u32)),(1,.sc .str),(5,.sc (.int .i64))],[]⟩ .u))))) .u))))) .u))) Zau.S d=Zau.S.F d:=fun _=>by kernel_rfl
theorem Zau.sound:Zak Tryz.prog C0 159 Zau.S:=sE ZbY Zau.ev (Zas trivial) Tryz.func159
def crc.S:Zbb:=⟨0,[.sc .str],[],[.str],⟨[.int .i64],.sc (.int .i64),[]⟩,
 fun (text:Str)=>crc text⟩
theorem crc.ev:∀d,ZbT C0 (hnd (tab [(159,Zau.S)])) Tryz.f119 .u crc.S d=crc.S.F d:=fun _=>by kernel_rfl
theorem crc.sound:Zak Tryz.prog C0 119 crc.S:=sE ZbY crc.ev (Zas ⟨Zau.sound,trivial⟩) Tryz.func119
def Zbp.S:Zbb:=⟨0,[.sc (.list [.int .i64])],[],[.list [.int .i64]],⟨[.bool],.sc .bool,[]⟩,
 fun (lens:List Int)=>Zbp lens⟩
theorem Zbp.ev:∀d,ZbT C0 (hnd (tab [(104,Za1.S)])) Tryz.f153 (.seq .u (.seq .u (.seq .u (.seq (.seq .u (.blk (.loopS ⟨[.int .i64,.int .i64,.int .i64,.list [.int .i64],.int .i64,.int .i64],[(3,.sc (.int .i64)),(4,.sc (.int .i64)),(5,.sc (.int .i64)),(11,.sc (.list [.int .i64])),(12,.sc (.int .i64)),(13,.sc (.int .i64))],[]⟩ (fun ((sum,many,last,t,t1,t2):Int×Int×Int×List Int×Int×Int)=>(t1-t2).toNat+1) 0 ⟨[.int .i64,.int .i64,.int .i64],[(3,.sc (.int .i64)),(4,.sc (.int .i64)),(5,.sc (.int .i64))],[]⟩ .u))) (.seq (.reg [.bool] [(2,.sc .bool)]) .u))))) Zbp.S d=Zbp.S.F d:=fun _=>by kernel_rfl
theorem Zbp.sound:Zak Tryz.prog C0 153 Zbp.S:=sE ZbY Zbp.ev (Zas ⟨Za1.sound,trivial⟩) Tryz.func153
def ZbK.S:Zbb:=⟨0,[.sc (.list [.int .i64])],[],[.list [.int .i64]],⟨[.list [.int .i64]],.full 0,[.arr [.int .i64]]⟩,
 fun (lens:List Int)=>ZbK lens⟩
theorem ZbK.ev:∀d,ZbT C0 (hnd (tab [])) Tryz.f169 (.seq .u (.seq .u (.seq .u (.seq (.seq .u (.blk (.loop ⟨[.list [.int .i64],.int .i64,.int .i64,.list [.int .i64]],[(0,.sc (.list [.int .i64])),(3,.full 0),(4,.sc (.int .i64)),(5,.sc (.int .i64))],[.arr [.int .i64]]⟩ (fun ((lens1,next_,l,out):List Int×Int×Int×List Int)=>(15-l).toNat+2) 0 ⟨[.list [.int .i64]],[(3,.full 0)],[.arr [.int .i64]]⟩ (.seq .u (.seq (.blk (.seq (.seq .u (.blk (.loop ⟨[.list [.int .i64],.int .i64,.int .i64,.list [.int .i64],.int .i64,.int .i64,.list [.int .i64]],[(0,.sc (.list [.int .i64])),(3,.full 0),(4,.sc (.int .i64)),(5,.sc (.int .i64)),(15,.sc (.list [.int .i64])),(16,.sc (.int .i64)),(17,.sc (.int .i64))],[.arr [.int .i64]]⟩ (fun ((lens2,next_1,l1,t,t1,t2,out1):List Int×Int×Int×List Int×Int×Int×List Int)=>(t1-t2).toNat+1) 2 ⟨[.list [.int .i64],.int .i64,.int .i64,.list [.int .i64]],[(0,.sc (.list [.int .i64])),(3,.full 0),(4,.sc (.int .i64)),(5,.sc (.int .i64))],[.arr [.int .i64]]⟩ .u))) .u)) .u))))) .u)))) ZbK.S d=ZbK.S.F d:=fun _=>by kernel_rfl
theorem ZbK.sound:Zak Tryz.prog C0 169 ZbK.S:=sE ZbY ZbK.ev (Zas trivial) Tryz.func169
def ZaP.S:Zbb:=⟨0,[.sc (.list [.int .i64,.ints .i64])],[],[.list [.int .i64,.ints .i64]],⟨[.int .i64,.list [.int .i64],.list [.int .i64,.ints .i64]],.tup [.agg [.sc (.int .i64),.sc (.list [.int .i64])],.full 0],[.arr [.int .i64,.ints .i64]]⟩,
 fun (list:List (Int×List Int))=>ZaP list⟩
theorem ZaP.ev:∀d,ZbT C0 (hnd (tab [])) Tryz.f209 (.seq .u (.seq .u (.seq (.seq .u (.blk (.loop ⟨[.list [.int .i64,.ints .i64],.int .i64,.list [.int .i64,.ints .i64],.int .i64,.int .i64,.int .i64,.list [.int .i64]],[(0,.sc (.list [.int .i64,.ints .i64])),(2,.ptr 0 0),(4,.sc (.int .i64)),(8,.sc (.list [.int .i64,.ints .i64])),(9,.sc (.int .i64)),(10,.sc (.int .i64))],[.box [.sc (.int .i64),.full 1],.arr [.int .i64]]⟩ (fun ((list1,at_,t,t1,t2,o,o1):(List (Int×List Int))×Int×(List (Int×List Int))×Int×Int×Int×List Int)=>(t1-t2).toNat+1) 0 ⟨[.list [.int .i64,.ints .i64],.int .i64,.int .i64,.list [.int .i64]],[(0,.sc (.list [.int .i64,.ints .i64])),(2,.ptr 0 0),(4,.sc (.int .i64))],[.box [.sc (.int .i64),.full 1],.arr [.int .i64]]⟩ (.seq .u (.seq .u (.seq (.blk (.seq .u (.seq (.reg [.bool] [(46,.sc .bool)]) .u))) .u)))))) .u))) ZaP.S d=ZaP.S.F d:=fun _=>by kernel_rfl
theorem ZaP.sound:Zak Tryz.prog C0 209 ZaP.S:=sE ZbY ZaP.ev (Zas trivial) Tryz.func209
def ZaQ.S:Zbb:=⟨0,[.sc (.list [.int .i64])],[],[.list [.int .i64]],⟨[.list [.int .i64]],.full 0,[.arr [.int .i64]]⟩,
 fun (counts:List Int)=>ZaQ counts⟩
theorem ZaQ.ev:∀d,ZbT C0 (hnd (tab [(209,ZaP.S)])) Tryz.f190 (.seq .u (.seq .u (.seq .u (.seq (.seq .u (.blk (.loop ⟨[.list [.int .i64],.int .i64,.int .i64,.list [.int .i64],.list [.int .i64,.ints .i64]],[(3,.full 0),(4,.full 1),(18,.sc (.list [.int .i64])),(19,.sc (.int .i64)),(20,.sc (.int .i64))],[.arr [.int .i64],.arr [.int .i64,.ints .i64]]⟩ (fun ((t,t1,t2,out,list):List Int×Int×Int×List Int×List (Int×List Int))=>(t1-t2).toNat+1) 0 ⟨[.list [.int .i64],.list [.int .i64,.ints .i64]],[(3,.full 0),(4,.full 1)],[.arr [.int .i64],.arr [.int .i64,.ints .i64]]⟩ .u))) (.seq .u (.seq (.blk (.loop ⟨[.list [.int .i64],.list [.int .i64,.ints .i64]],[(3,.full 0),(4,.full 1)],[.arr [.int .i64],.arr [.int .i64,.ints .i64]]⟩ (fun ((out2,list2):List Int×List (Int×List Int))=>((list2.length:Int)-1).toNat+1) 2 ⟨[.list [.int .i64]],[(3,.full 0)],[.arr [.int .i64]]⟩ (.seq .u (.blk (.seq .u (.seq .u (.seq .u (.seq (.seq .u (.blk (.loop ⟨[.int .i64,.int .i64,.list [.int .i64],.int .i64,.list [.int .i64],.int .i64,.list [.int .i64],.list [.int .i64,.ints .i64],.list [.int .i64]],[(3,.full 0),(7,.ptr 1 0),(9,.ptr 2 0),(10,.full 3),(11,.full 4),(67,.full 4),(68,.sc (.int .i64)),(69,.sc (.int .i64))],[.arr [.int .i64],.box [.sc (.int .i64),.sc (.list [.int .i64])],.box [.sc (.int .i64),.sc (.list [.int .i64])],.arr [.int .i64,.ints .i64],.arr [.int .i64]]⟩ (fun ((t3,t4,out3,o,o1,o2,o3,left,o4):Int×Int×List Int×Int×List Int×Int×List Int×(List (Int×List Int))×List Int)=>(t3-t4).toNat+1) 4 ⟨[.list [.int .i64],.int .i64,.list [.int .i64],.int .i64,.list [.int .i64],.list [.int .i64,.ints .i64],.list [.int .i64]],[(3,.full 0),(7,.ptr 1 0),(9,.ptr 2 0),(10,.full 3),(11,.full 4)],[.arr [.int .i64],.box [.sc (.int .i64),.sc (.list [.int .i64])],.box [.sc (.int .i64),.sc (.list [.int .i64])],.arr [.int .i64,.ints .i64],.arr [.int .i64]]⟩ .u))) .u)))))))) .u)))))) ZaQ.S d=ZaQ.S.F d:=fun _=>by kernel_rfl
theorem ZaQ.sound:Zak Tryz.prog C0 190 ZaQ.S:=sE ZbY ZaQ.ev (Zas ⟨ZaP.sound,trivial⟩) Tryz.func190
end Ev
end
section
open Go Go.Proofs
set_option maxRecDepth 100000
namespace Ev
set_option maxHeartbeats 1000000
def Zaz.S:Zbb:=⟨0,[.sc (.list [.int .i64]),.sc (.int .i64)],[],[.list [.int .i64],.int .i64],⟨[.list [.int .i64]],.full 0,[.arr [.int .i64]]⟩,
 fun ((counts,most):List Int×Int)=>Zaz counts most⟩
theorem Zaz.ev:∀d,ZbT C0 (hnd (tab [(104,Za1.S),(190,ZaQ.S)])) Tryz.f168 (.seq .u (.seq (.seq (.reg [.bool] [(21,.sc .bool)]) .u) (.seq .u (.seq .u (.seq (.seq .u (.blk (.loopS ⟨[.int .i64,.int .i64,.list [.int .i64],.int .i64,.int .i64,.list [.int .i64]],[(1,.sc (.int .i64)),(5,.full 0),(6,.sc (.int .i64)),(24,.sc (.list [.int .i64])),(25,.sc (.int .i64)),(26,.sc (.int .i64))],[.arr [.int .i64]]⟩ (fun ((most1,many,t,t1,t2,now):Int×Int×List Int×Int×Int×List Int)=>(t1-t2).toNat+1) 0 ⟨[.int .i64,.int .i64,.list [.int .i64]],[(1,.sc (.int .i64)),(5,.full 0),(6,.sc (.int .i64))],[.arr [.int .i64]]⟩ .u))) (.seq .u (.blk (.loopS ⟨[.int .i64,.list [.int .i64]],[(1,.sc (.int .i64)),(5,.full 0)],[.arr [.int .i64]]⟩ (fun ((most3,now2):Int×List Int)=>100000) 9999 ⟨[],[],[]⟩ (.blk (.seq .u (.seq .u (.seq (.seq .u (.blk (.loop ⟨[.int .i64,.int .i64,.int .i64,.int .i64,.list [.int .i64],.list [.int .i64]],[(1,.sc (.int .i64)),(5,.full 0),(9,.full 1),(10,.sc (.int .i64)),(52,.full 1),(53,.sc (.int .i64)),(54,.sc (.int .i64))],[.arr [.int .i64],.arr [.int .i64]]⟩ (fun ((most4,long,t3,t4,now3,o):Int×Int×Int×Int×List Int×List Int)=>(t3-t4).toNat+1) 4 ⟨[.int .i64,.int .i64,.list [.int .i64],.list [.int .i64]],[(1,.sc (.int .i64)),(5,.full 0),(9,.full 1),(10,.sc (.int .i64))],[.arr [.int .i64],.arr [.int .i64]]⟩ .u))) (.seq .u (.seq .u (.blk (.loop ⟨[.int .i64,.int .i64,.int .i64,.list [.int .i64]],[(1,.sc (.int .i64)),(5,.full 0),(67,.sc (.int .i64)),(68,.sc (.int .i64))],[.arr [.int .i64]]⟩ (fun ((most6,t5,t6,now5):Int×Int×Int×List Int)=>(t5-t6).toNat+1) 6 ⟨[.int .i64,.list [.int .i64]],[(1,.sc (.int .i64)),(5,.full 0)],[.arr [.int .i64]]⟩ .u)))))))))))))))) Zaz.S d=Zaz.S.F d:=fun _=>by kernel_rfl
theorem Zaz.sound:Zak Tryz.prog C0 168 Zaz.S:=sE ZbY Zaz.ev (Zas ⟨Za1.sound,ZaQ.sound,trivial⟩) Tryz.func168
def Zbq.S:Zbb:=⟨0,[.sc (.list [.int .i64])],[],[.list [.int .i64]],⟨[.map [.int .i64,.int .i64] [.int .i64]],.map 0,[.map [.int .i64,.int .i64] [.int .i64]]⟩,
 fun (lens:List Int)=>Zbq lens⟩
theorem Zbq.ev:∀d,ZbT C0 (hnd (tab [(169,ZbK.S)])) Tryz.f154 (.seq .u (.seq .u (.seq (.seq .u (.blk (.loop ⟨[.list [.int .i64],.int .i64,.int .i64,.map [.int .i64,.int .i64] [.int .i64],.list [.int .i64]],[(0,.sc (.list [.int .i64])),(3,.map 0),(8,.full 1),(9,.sc (.int .i64)),(10,.sc (.int .i64))],[.map [.int .i64,.int .i64] [.int .i64],.arr [.int .i64]]⟩ (fun ((lens1,t,t1,o,o1):List Int×Int×Int×(List ((Int×Int)×Int))×List Int)=>(t-t1).toNat+1) 0 ⟨[.map [.int .i64,.int .i64] [.int .i64]],[(3,.map 0)],[.map [.int .i64,.int .i64] [.int .i64]]⟩ .u))) .u))) Zbq.S d=Zbq.S.F d:=fun _=>by kernel_rfl
theorem Zbq.sound:Zak Tryz.prog C0 154 Zbq.S:=sE ZbY Zbq.ev (Zas ⟨ZbK.sound,trivial⟩) Tryz.func154
def ZaS.S:Zbb:=⟨2,[.ptr 0 0,.map 1],[.box [.sc .str,.sc (.int .i64),.sc .bool],.map [.int .i64,.int .i64] [.int .i64]],[.str,.int .i64,.bool,.map [.int .i64,.int .i64] [.int .i64]],⟨[.int .i64,.str,.int .i64,.bool,.map [.int .i64,.int .i64] [.int .i64]],.sc (.int .i64),[.box [.sc .str,.sc (.int .i64),.sc .bool],.map [.int .i64,.int .i64] [.int .i64]]⟩,
 fun ((s,at_,bad,book):Str×Int×Bool×List ((Int×Int)×Int))=>ZaS s at_ bad book⟩
theorem ZaS.ev:∀d,ZbT C0 (hnd (tab [(112,ZfR.S)])) Tryz.f155 (.seq .u (.seq .u (.seq (.seq .u (.blk (.loopS ⟨[.int .i64,.int .i64,.str,.int .i64,.bool,.map [.int .i64,.int .i64] [.int .i64]],[(0,.ptr 0 0),(1,.map 1),(5,.sc (.int .i64)),(6,.sc (.int .i64))],[.box [.sc .str,.sc (.int .i64),.sc .bool],.map [.int .i64,.int .i64] [.int .i64]]⟩ (fun ((code_,l,o,o1,o2,o3):Int×Int×Str×Int×Bool×List ((Int×Int)×Int))=>(15-l).toNat+2) 0 ⟨[.str,.int .i64,.bool,.map [.int .i64,.int .i64] [.int .i64]],[(0,.ptr 0 0)],[.box [.sc .str,.sc (.int .i64),.sc .bool],.map [.int .i64,.int .i64] [.int .i64]]⟩ (.seq .u (.seq (.blk (.seq .u (.seq .u (.seq (.reg [.bool] [(33,.sc .bool)]) .u)))) .u))))) .u))) ZaS.S d=ZaS.S.F d:=fun _=>by kernel_rfl
theorem ZaS.sound:Zak Tryz.prog C0 155 ZaS.S:=sE ZbY ZaS.ev (Zas ⟨ZfR.sound,trivial⟩) Tryz.func155
def add.S:Zbb:=⟨0,[.full 0,.agg [.sc (.int .i64),.sc (.int .i64),.sc (.int .i64)]],[.arr [.int .u8]],[.int .i64,.int .i64,.int .i64,.list [.int .u8]],⟨[.bool,.list [.int .u8]],.tup [.full 0,.sc .bool],[.arr [.int .u8]]⟩,
 fun ((byte,long,back,out):Int×Int×Int×List Int)=>add byte long back out⟩
theorem add.ev:∀d,ZbT C0 (hnd (tab [(104,Za1.S)])) Tryz.f158 (.seq .u (.seq (.seq .u (.cond (.seq (.seq (.reg [.bool] [(17,.sc .bool)]) .u) .u) .u)) (.seq (.seq (.reg [.bool] [(41,.sc .bool)]) .u) (.seq (.seq .u (.blk (.loop ⟨[.int .i64,.int .i64,.list [.int .u8],.int .i64,.int .i64,.int .i64],[(0,.full 0),(3,.ptr 1 0),(43,.sc (.int .i64)),(44,.sc (.int .i64))],[.arr [.int .u8],.box [.sc (.int .i64),.sc (.int .i64),.sc (.int .i64)]]⟩ (fun ((t,t1,out1,o,o1,o2):Int×Int×List Int×Int×Int×Int)=>(t-t1).toNat+1) 0 ⟨[.list [.int .u8]],[(0,.full 0)],[.arr [.int .u8]]⟩ .u))) .u)))) add.S d=add.S.F d:=fun _=>by kernel_rfl
theorem add.sound:Zak Tryz.prog C0 158 add.S:=sE ZbY add.ev (Zas ⟨Za1.sound,trivial⟩) Tryz.func158
def Zan.S:Zbb:=⟨0,[.sc .str],[],[.str],⟨[.list [.int .i64,.int .i64,.int .i64]],.full 0,[.arr [.int .i64,.int .i64,.int .i64]]⟩,
 fun (text:Str)=>Zan text⟩
theorem Zan.ev:∀d,ZbT C0 (hnd (tab [])) Tryz.f165 (.seq .u (.seq .u (.seq .u (.seq (.seq .u (.blk (.loop ⟨[.str,.int .i64,.list [.int .i64,.int .i64,.int .i64]],[(0,.sc .str),(3,.full 0),(4,.sc (.int .i64))],[.arr [.int .i64,.int .i64,.int .i64]]⟩ (fun ((text1,at_,out):Str×Int×List (Int×Int×Int))=>((text1.length:Int)-at_).toNat+1) 0 ⟨[.list [.int .i64,.int .i64,.int .i64]],[(3,.full 0)],[.arr [.int .i64,.int .i64,.int .i64]]⟩ (.seq .u (.blk (.seq .u (.seq (.seq .u (.blk (.loop ⟨[.str,.int .i64,.int .i64,.list [.int .i64,.int .i64,.int .i64],.int .i64,.int .i64,.int .i64],[(0,.sc .str),(3,.full 0),(4,.sc (.int .i64)),(5,.ptr 1 0),(6,.sc (.int .i64))],[.arr [.int .i64,.int .i64,.int .i64],.box [.sc (.int .i64),.sc (.int .i64),.sc (.int .i64)]]⟩ (fun ((text2,at_1,back,out1,o,o1,o2):Str×Int×Int×(List (Int×Int×Int))×Int×Int×Int)=>((Zlq 250 at_1)-back).toNat+2) 2 ⟨[.str,.int .i64,.list [.int .i64,.int .i64,.int .i64],.int .i64,.int .i64,.int .i64],[(0,.sc .str),(3,.full 0),(4,.sc (.int .i64)),(5,.ptr 1 0)],[.arr [.int .i64,.int .i64,.int .i64],.box [.sc (.int .i64),.sc (.int .i64),.sc (.int .i64)]]⟩ (.seq .u (.seq (.blk (.seq .u (.seq (.blk (.loop ⟨[.str,.int .i64,.int .i64,.int .i64,.list [.int .i64,.int .i64,.int .i64],.int .i64,.int .i64,.int .i64],[(0,.sc .str),(3,.full 0),(4,.sc (.int .i64)),(5,.ptr 1 0),(6,.sc (.int .i64)),(7,.sc (.int .i64))],[.arr [.int .i64,.int .i64,.int .i64],.box [.sc (.int .i64),.sc (.int .i64),.sc (.int .i64)]]⟩ (fun ((text3,at_2,back1,n,out2,o3,o4,o5):Str×Int×Int×Int×(List (Int×Int×Int))×Int×Int×Int)=>(60-n).toNat+1) 4 ⟨[.str,.int .i64,.int .i64,.int .i64,.list [.int .i64,.int .i64,.int .i64],.int .i64,.int .i64,.int .i64],[(0,.sc .str),(3,.full 0),(4,.sc (.int .i64)),(5,.ptr 1 0),(6,.sc (.int .i64)),(7,.sc (.int .i64))],[.arr [.int .i64,.int .i64,.int .i64],.box [.sc (.int .i64),.sc (.int .i64),.sc (.int .i64)]]⟩ (.seq (.seq (.reg [.bool] [(52,.sc .bool)]) .u) .u))) (.seq (.reg [.bool] [(62,.sc .bool)]) .u)))) .u))))) .u))))))) .u)))) Zan.S d=Zan.S.F d:=fun _=>by kernel_rfl
theorem Zan.sound:Zak Tryz.prog C0 165 Zan.S:=sE ZbY Zan.ev (Zas trivial) Tryz.func165
def Zby.S:Zbb:=⟨0,[.sc (.int .i64),.sc (.int .i64),.sc (.int .i64),.sc (.int .i64)],[],[.int .i64,.int .i64,.int .i64,.int .i64],⟨[.list [.int .i64],.list [.int .i64]],.agg [.sc (.list [.int .i64]),.sc (.list [.int .i64])],[]⟩,
 fun ((from_,many,plain,each):Int×Int×Int×Int)=>Zby from_ many plain each⟩
theorem Zby.ev:∀d,ZbT C0 (hnd (tab [])) Tryz.f187 (.seq .u (.seq .u (.seq (.seq .u (.blk (.loop ⟨[.int .i64,.int .i64,.int .i64,.int .i64,.int .i64,.list [.int .i64],.list [.int .i64],.list [.int .i64],.list [.int .i64]],[(0,.sc (.int .i64)),(2,.sc (.int .i64)),(3,.sc (.int .i64)),(8,.ptr 0 0),(9,.ptr 1 0),(13,.sc (.int .i64)),(14,.sc (.int .i64))],[.box [.full 2,.full 3],.box [.full 4,.full 5],.arr [.int .i64],.arr [.int .i64],.arr [.int .i64],.arr [.int .i64]]⟩ (fun ((from_1,plain1,each1,t,t1,o,o1,o2,o3):Int×Int×Int×Int×Int×List Int×List Int×List Int×List Int)=>(t-t1).toNat+1) 0 ⟨[.list [.int .i64],.list [.int .i64],.list [.int .i64],.list [.int .i64]],[(8,.ptr 0 0),(9,.ptr 1 0)],[.box [.full 2,.full 3],.box [.full 4,.full 5],.arr [.int .i64],.arr [.int .i64],.arr [.int .i64],.arr [.int .i64]]⟩ (.seq .u (.seq .u (.seq (.blk (.seq .u (.seq .u (.join ⟨[.int .i64,.int .i64,.int .i64,.int .i64,.int .i64,.int .i64,.list [.int .i64],.list [.int .i64],.list [.int .i64],.list [.int .i64]],[(0,.sc (.int .i64)),(2,.sc (.int .i64)),(3,.sc (.int .i64)),(8,.ptr 0 0),(9,.ptr 1 0),(11,.sc (.int .i64)),(13,.sc (.int .i64)),(14,.sc (.int .i64))],[.box [.full 2,.full 3],.box [.full 4,.full 5],.arr [.int .i64],.arr [.int .i64],.arr [.int .i64],.arr [.int .i64]]⟩ .u .u)))) .u)))))) .u))) Zby.S d=Zby.S.F d:=fun _=>by kernel_rfl
theorem Zby.sound:Zak Tryz.prog C0 187 Zby.S:=sE ZbY Zby.ev (Zas trivial) Tryz.func187
def Zbk.S:Zbb:=⟨0,[],[],[],⟨[.list [.int .i64],.list [.int .i64]],.agg [.sc (.list [.int .i64]),.sc (.list [.int .i64])],[]⟩,
 fun (_:Unit)=>Zbk⟩
theorem Zbk.ev:∀d,ZbT C0 (hnd (tab [(187,Zby.S)])) Tryz.f156 .u Zbk.S d=Zbk.S.F d:=fun _=>by kernel_rfl
theorem Zbk.sound:Zak Tryz.prog C0 156 Zbk.S:=sE ZbY Zbk.ev (Zas ⟨Zby.sound,trivial⟩) Tryz.func156
def Zbl.S:Zbb:=⟨0,[],[],[],⟨[.list [.int .i64],.list [.int .i64]],.agg [.sc (.list [.int .i64]),.sc (.list [.int .i64])],[]⟩,
 fun (_:Unit)=>Zbl⟩
theorem Zbl.ev:∀d,ZbT C0 (hnd (tab [(187,Zby.S)])) Tryz.f157 .u Zbl.S d=Zbl.S.F d:=fun _=>by kernel_rfl
theorem Zbl.sound:Zak Tryz.prog C0 157 Zbl.S:=sE ZbY Zbl.ev (Zas ⟨Zby.sound,trivial⟩) Tryz.func157
def Zbv.S:Zbb:=⟨0,[.agg [.sc (.list [.int .i64]),.sc (.list [.int .i64])],.sc (.int .i64)],[],[.list [.int .i64],.list [.int .i64],.int .i64],⟨[.int .i64],.sc (.int .i64),[]⟩,
 fun ((first,bits,n):List Int×List Int×Int)=>Zbv first bits n⟩
theorem Zbv.ev:∀d,ZbT C0 (hnd (tab [])) Tryz.f166 (.seq .u (.seq .u (.seq (.blk (.loop ⟨[.int .i64,.int .i64,.list [.int .i64],.list [.int .i64]],[(1,.sc (.int .i64)),(2,.ptr 0 0),(5,.sc (.int .i64))],[.box [.sc (.list [.int .i64]),.sc (.list [.int .i64])]]⟩ (fun ((n1,k,o,o1):Int×Int×List Int×List Int)=>k.toNat+1) 0 ⟨[.int .i64],[(5,.sc (.int .i64))],[]⟩ .u)) .u))) Zbv.S d=Zbv.S.F d:=fun _=>by kernel_rfl
theorem Zbv.sound:Zak Tryz.prog C0 166 Zbv.S:=sE ZbY Zbv.ev (Zas trivial) Tryz.func166
def ZaV.S:Zbb:=⟨0,[],[],[],⟨[.list [.int .i64],.list [.int .i64]],.tup [.full 0,.full 1],[.arr [.int .i64],.arr [.int .i64]]⟩,
 fun (_:Unit)=>ZaV⟩
theorem ZaV.ev:∀d,ZbT C0 (hnd (tab [])) Tryz.f115 (.seq .u (.seq .u (.seq (.seq .u (.blk (.loop ⟨[.int .i64,.int .i64,.list [.int .i64]],[(2,.full 0),(8,.sc (.int .i64)),(9,.sc (.int .i64))],[.arr [.int .i64]]⟩ (fun ((t,t1,lit):Int×Int×List Int)=>(t-t1).toNat+1) 0 ⟨[.list [.int .i64]],[(2,.full 0)],[.arr [.int .i64]]⟩ (.seq .u (.seq .u (.seq (.blk (.seq .u (.blk (.seq (.reg [.bool] [(15,.sc .bool)]) .u)))) .u)))))) (.seq .u (.seq (.seq .u (.blk (.loop ⟨[.int .i64,.int .i64,.list [.int .i64],.list [.int .i64]],[(2,.full 0),(4,.full 1),(34,.sc (.int .i64)),(35,.sc (.int .i64))],[.arr [.int .i64],.arr [.int .i64]]⟩ (fun ((t2,t3,lit2,dist):Int×Int×List Int×List Int)=>(t2-t3).toNat+1) 3 ⟨[.list [.int .i64],.list [.int .i64]],[(2,.full 0),(4,.full 1)],[.arr [.int .i64],.arr [.int .i64]]⟩ .u))) .u))))) ZaV.S d=ZaV.S.F d:=fun _=>by kernel_rfl
theorem ZaV.sound:Zak Tryz.prog C0 115 ZaV.S:=sE ZbY ZaV.ev (Zas trivial) Tryz.func115
def Zcl.S:Zbb:=⟨0,[.sc .str],[],[.str],⟨[.str],.sc .str,[]⟩,
 fun (text:Str)=>Zcl text⟩
theorem Zcl.ev:∀d,ZbT C0 (hnd (tab [(162,Zdf.S),(163,Zgp.S)])) Tryz.f126 .u Zcl.S d=Zcl.S.F d:=fun _=>by kernel_rfl
theorem Zcl.sound:Zak Tryz.prog C0 126 Zcl.S:=sE ZbY Zcl.ev (Zas ⟨Zdf.sound,Zgp.sound,trivial⟩) Tryz.func126
def ZdX.S:Zbb:=⟨1,[.ptr 0 0,.sc (.list [.int .i64]),.sc (.list [.int .i64]),.sc (.int .i64)],[.box [.full 1,.sc (.int .i64)],.arr [.int .u8]],[.list [.int .i64],.list [.int .i64],.int .i64,.int .i64,.list [.int .u8]],⟨[.int .i64,.list [.int .u8]],.tup [],[.box [.full 1,.sc (.int .i64)],.arr [.int .u8]]⟩,
 fun ((lens,all,s,many,b):List Int×List Int×Int×Int×List Int)=>ZdX lens all s many b⟩
theorem ZdX.ev:∀d,ZbT C0 (hnd (tab [(162,Zdf.S),(191,Za4.S)])) Tryz.f170 .u ZdX.S d=ZdX.S.F d:=fun _=>by kernel_rfl
theorem ZdX.sound:Zak Tryz.prog C0 170 ZdX.S:=sE ZbY ZdX.ev (Zas ⟨Zdf.sound,Za4.sound,trivial⟩) Tryz.func170
def Zba.S:Zbb:=⟨1,[.ptr 0 0,.sc (.list [.int .i64,.int .i64,.int .i64]),.sc (.list [.int .i64]),.sc (.list [.int .i64])],[.box [.full 1,.sc (.int .i64)],.arr [.int .u8]],[.list [.int .i64,.int .i64,.int .i64],.list [.int .i64],.list [.int .i64],.int .i64,.list [.int .u8]],⟨[.int .i64,.list [.int .u8]],.tup [],[.box [.full 1,.sc (.int .i64)],.arr [.int .u8]]⟩,
 fun ((list,lit,dist,many,b):(List (Int×Int×Int))×List Int×List Int×Int×List Int)=>Zba list lit dist many b⟩
theorem Zba.ev:∀d,ZbT C0 (hnd (tab [(156,Zbk.S),(157,Zbl.S),(162,Zdf.S),(166,Zbv.S),(169,ZbK.S),(170,ZdX.S)])) Tryz.f164 (.seq .u (.seq (.seq .u (.blk (.loop ⟨[.list [.int .i64],.list [.int .i64],.list [.int .i64,.int .i64,.int .i64],.int .i64,.int .i64,.int .i64,.list [.int .i64],.list [.int .i64],.list [.int .u8]],[(0,.ptr 0 0),(2,.sc (.list [.int .i64])),(3,.sc (.list [.int .i64])),(8,.full 1),(9,.full 2),(17,.sc (.list [.int .i64,.int .i64,.int .i64])),(18,.sc (.int .i64)),(19,.sc (.int .i64))],[.box [.full 3,.sc (.int .i64)],.arr [.int .i64],.arr [.int .i64],.arr [.int .u8]]⟩ (fun ((lit1,dist1,t,t1,t2,o,a,b1,o1):List Int×List Int×(List (Int×Int×Int))×Int×Int×Int×List Int×List Int×List Int)=>(t1-t2).toNat+1) 0 ⟨[.list [.int .i64],.int .i64,.list [.int .i64],.list [.int .u8]],[(0,.ptr 0 0),(2,.sc (.list [.int .i64])),(8,.full 1)],[.box [.full 2,.sc (.int .i64)],.arr [.int .i64],.arr [.int .u8]]⟩ .u))) .u)) Zba.S d=Zba.S.F d:=fun _=>by kernel_rfl
theorem Zba.sound:Zak Tryz.prog C0 164 Zba.S:=sE ZbY Zba.ev (Zas ⟨Zbk.sound,Zbl.sound,Zdf.sound,Zbv.sound,ZbK.sound,ZdX.sound,trivial⟩) Tryz.func164
def Zcq.S:Zbb:=⟨0,[.sc .str],[],[.str],⟨[.str],.sc .str,[]⟩,
 fun (text:Str)=>Zcq text⟩
theorem Zcq.ev:∀d,ZbT C0 (hnd (tab [(115,ZaV.S),(162,Zdf.S),(164,Zba.S),(165,Zan.S)])) Tryz.f127 .u Zcq.S d=Zcq.S.F d:=fun _=>by kernel_rfl
theorem Zcq.sound:Zak Tryz.prog C0 127 Zcq.S:=sE ZbY Zcq.ev (Zas ⟨ZaV.sound,Zdf.sound,Zba.sound,Zan.sound,trivial⟩) Tryz.func127
def Za6.S:Zbb:=⟨0,[.sc (.list [.int .i64]),.sc (.int .i64)],[],[.list [.int .i64],.int .i64],⟨[.list [.int .i64]],.sc (.list [.int .i64]),[]⟩,
 fun ((lens,least_):List Int×Int)=>Za6 lens least_⟩
theorem Za6.ev:∀d,ZbT C0 (hnd (tab [])) Tryz.f167 (.seq .u (.seq .u (.seq (.blk (.loop ⟨[.list [.int .i64],.int .i64,.int .i64],[(0,.sc (.list [.int .i64])),(1,.sc (.int .i64)),(5,.sc (.int .i64))],[]⟩ (fun ((lens1,least_1,n):List Int×Int×Int)=>(n-least_1).toNat+1) 0 ⟨[.list [.int .i64],.int .i64],[(0,.sc (.list [.int .i64])),(5,.sc (.int .i64))],[]⟩ (.seq (.seq (.reg [.bool] [(18,.sc .bool)]) .u) .u))) .u))) Za6.S d=Za6.S.F d:=fun _=>by kernel_rfl
theorem Za6.sound:Zak Tryz.prog C0 167 Za6.S:=sE ZbY Za6.ev (Zas trivial) Tryz.func167
def ZaA.S:Zbb:=⟨0,[.sc .str],[],[.str],⟨[.str],.sc .str,[]⟩,
 fun (text:Str)=>ZaA text⟩
theorem ZaA.ev:∀d,ZbT C0 (hnd (tab [(156,Zbk.S),(157,Zbl.S),(162,Zdf.S),(164,Zba.S),(165,Zan.S),(166,Zbv.S),(167,Za6.S),(168,Zaz.S),(169,ZbK.S),(170,ZdX.S)])) Tryz.f128 (.seq .u (.seq .u (.seq .u (.seq .u (.seq .u (.seq .u (.seq (.seq .u (.blk (.loop ⟨[.bool,.int .i64,.int .i64,.list [.int .i64,.int .i64,.int .i64],.list [.int .i64],.list [.int .i64]],[(3,.full 0),(4,.full 1),(5,.full 2),(6,.sc .bool),(31,.full 0),(32,.sc (.int .i64)),(33,.sc (.int .i64))],[.arr [.int .i64,.int .i64,.int .i64],.arr [.int .i64],.arr [.int .i64]]⟩ (fun ((none_,t,t1,o,a,b):Bool×Int×Int×(List (Int×Int×Int))×List Int×List Int)=>(t-t1).toNat+1) 0 ⟨[.bool,.list [.int .i64,.int .i64,.int .i64],.list [.int .i64],.list [.int .i64]],[(3,.full 0),(4,.full 1),(5,.full 2),(6,.sc .bool)],[.arr [.int .i64,.int .i64,.int .i64],.arr [.int .i64],.arr [.int .i64]]⟩ .u))) (.join ⟨[.list [.int .i64,.int .i64,.int .i64],.list [.int .i64],.list [.int .i64]],[(3,.full 0),(4,.full 1),(5,.full 2)],[.arr [.int .i64,.int .i64,.int .i64],.arr [.int .i64],.arr [.int .i64]]⟩ .u (.seq .u (.seq .u (.seq .u (.seq (.seq .u (.blk (.loop ⟨[.list [.int .i64],.list [.int .i64],.int .i64,.int .i64,.list [.int .i64,.int .i64,.int .i64],.list [.int .i64],.list [.int .i64]],[(3,.full 0),(9,.sc (.list [.int .i64])),(10,.sc (.list [.int .i64])),(11,.full 1),(12,.full 2),(84,.full 1),(85,.sc (.int .i64)),(86,.sc (.int .i64))],[.arr [.int .i64,.int .i64,.int .i64],.arr [.int .i64],.arr [.int .i64]]⟩ (fun ((lit,dist,t2,t3,list2,o1,c):List Int×List Int×Int×Int×(List (Int×Int×Int))×List Int×List Int)=>(t2-t3).toNat+1) 2 ⟨[.list [.int .i64],.list [.int .i64],.list [.int .i64,.int .i64,.int .i64],.list [.int .i64],.list [.int .i64]],[(3,.full 0),(9,.sc (.list [.int .i64])),(10,.sc (.list [.int .i64])),(11,.full 1),(12,.full 2)],[.arr [.int .i64,.int .i64,.int .i64],.arr [.int .i64],.arr [.int .i64]]⟩ .u))) (.seq .u (.seq .u (.seq .u (.seq .u (.seq .u (.seq .u (.seq .u (.seq (.seq .u (.blk (.loop ⟨[.list [.int .i64],.list [.int .i64],.list [.int .i64],.int .i64,.int .i64,.list [.int .i64,.int .i64,.int .i64],.list [.int .i64],.list [.int .i64],.int .i64,.list [.int .u8]],[(3,.full 0),(9,.sc (.list [.int .i64])),(10,.sc (.list [.int .i64])),(11,.full 1),(15,.full 2),(16,.ptr 3 0),(120,.sc (.list [.int .i64])),(121,.sc (.int .i64)),(122,.sc (.int .i64))],[.arr [.int .i64,.int .i64,.int .i64],.arr [.int .i64],.arr [.int .i64],.box [.full 4,.sc (.int .i64)],.arr [.int .u8]]⟩ (fun ((lit2,dist2,t4,t5,t6,list4,all1,meta_,o2,o3):List Int×List Int×List Int×Int×Int×(List (Int×Int×Int))×List Int×List Int×Int×List Int)=>(t5-t6).toNat+1) 4 ⟨[.list [.int .i64],.list [.int .i64],.list [.int .i64,.int .i64,.int .i64],.list [.int .i64],.list [.int .i64],.int .i64,.list [.int .u8]],[(3,.full 0),(9,.sc (.list [.int .i64])),(10,.sc (.list [.int .i64])),(11,.full 1),(15,.full 2),(16,.ptr 3 0)],[.arr [.int .i64,.int .i64,.int .i64],.arr [.int .i64],.arr [.int .i64],.box [.full 4,.sc (.int .i64)],.arr [.int .u8]]⟩ .u))) (.seq .u (.seq (.seq .u (.blk (.loop ⟨[.list [.int .i64],.list [.int .i64],.int .i64,.int .i64,.list [.int .i64,.int .i64,.int .i64],.list [.int .i64],.int .i64,.list [.int .i64],.list [.int .i64],.list [.int .u8]],[(3,.full 0),(9,.sc (.list [.int .i64])),(10,.sc (.list [.int .i64])),(15,.full 1),(16,.ptr 2 0),(19,.full 3),(135,.full 4),(136,.sc (.int .i64)),(137,.sc (.int .i64))],[.arr [.int .i64,.int .i64,.int .i64],.arr [.int .i64],.box [.full 5,.sc (.int .i64)],.arr [.int .i64],.arr [.int .i64],.arr [.int .u8]]⟩ (fun ((lit4,dist4,t7,t8,list6,meta_2,o6,m,o7,o8):List Int×List Int×Int×Int×(List (Int×Int×Int))×List Int×Int×List Int×List Int×List Int)=>(t7-t8).toNat+1) 6 ⟨[.list [.int .i64],.list [.int .i64],.list [.int .i64,.int .i64,.int .i64],.int .i64,.list [.int .u8]],[(3,.full 0),(9,.sc (.list [.int .i64])),(10,.sc (.list [.int .i64])),(16,.ptr 1 0)],[.arr [.int .i64,.int .i64,.int .i64],.box [.full 2,.sc (.int .i64)],.arr [.int .u8]]⟩ .u))) .u)))))))))))))))))))))) ZaA.S d=ZaA.S.F d:=fun _=>by kernel_rfl
theorem ZaA.sound:Zak Tryz.prog C0 128 ZaA.S:=sE ZbY ZaA.ev (Zas ⟨Zbk.sound,Zbl.sound,Zdf.sound,Zba.sound,Zan.sound,Zbv.sound,Za6.sound,Zaz.sound,ZbK.sound,ZdX.sound,trivial⟩) Tryz.func128
def ZaH.S:Zbb:=⟨0,[.sc .str],[],[.str],⟨[.str],.sc .str,[]⟩,
 fun (text:Str)=>ZaH text⟩
theorem ZaH.ev:∀d,ZbT C0 (hnd (tab [(126,Zcl.S),(127,Zcq.S),(128,ZaA.S)])) Tryz.f72 (.seq .u (.seq .u (.seq (.seq .u (.blk (.loop ⟨[.str,.int .i64,.int .i64,.list [.str]],[(3,.sc .str),(12,.full 0),(13,.sc (.int .i64)),(14,.sc (.int .i64))],[.arr [.str]]⟩ (fun ((best,t,t1,o):Str×Int×Int×List Str)=>(t-t1).toNat+1) 0 ⟨[.str],[(3,.sc .str)],[]⟩ .u))) .u))) ZaH.S d=ZaH.S.F d:=fun _=>by kernel_rfl
theorem ZaH.sound:Zak Tryz.prog C0 72 ZaH.S:=sE ZbY ZaH.ev (Zas ⟨Zcl.sound,Zcq.sound,ZaA.sound,trivial⟩) Tryz.func72
def Zbg.S:Zbb:=⟨1,[.ptr 0 0,.full 1],[.box [.sc .str,.sc (.int .i64),.sc .bool],.arr [.int .u8]],[.str,.int .i64,.bool,.list [.int .u8]],⟨[.str,.int .i64,.bool,.list [.int .u8]],.full 1,[.box [.sc .str,.sc (.int .i64),.sc .bool],.arr [.int .u8]]⟩,
 fun ((s,at_,bad,out):Str×Int×Bool×List Int)=>Zbg s at_ bad out⟩
theorem Zbg.ev:∀d,ZbT C0 (hnd (tab [(113,Zdh.S),(118,ZcQ.S)])) Tryz.f114 (.seq .u (.seq .u (.seq .u (.join ⟨[.int .i64,.str,.int .i64,.bool,.list [.int .u8]],[(0,.ptr 0 0),(1,.full 1),(5,.sc (.int .i64))],[.box [.sc .str,.sc (.int .i64),.sc .bool],.arr [.int .u8]]⟩ .u (.seq (.seq .u (.blk (.loop ⟨[.int .i64,.int .i64,.str,.int .i64,.bool,.list [.int .u8]],[(0,.ptr 0 0),(1,.full 1),(5,.sc (.int .i64)),(7,.sc (.int .i64))],[.box [.sc .str,.sc (.int .i64),.sc .bool],.arr [.int .u8]]⟩ (fun ((n1,k,o3,o4,o5,out2):Int×Int×Str×Int×Bool×List Int)=>(n1-k).toNat+1) 0 ⟨[.str,.int .i64,.bool,.list [.int .u8]],[(1,.full 1)],[.box [.sc .str,.sc (.int .i64),.sc .bool],.arr [.int .u8]]⟩ (.seq (.seq (.reg [.bool] [(35,.sc .bool)]) .u) .u)))) .u))))) Zbg.S d=Zbg.S.F d:=fun _=>by kernel_rfl
theorem Zbg.sound:Zak Tryz.prog C0 114 Zbg.S:=sE ZbY Zbg.ev (Zas ⟨Zdh.sound,ZcQ.sound,trivial⟩) Tryz.func114
end Ev
end
section
open Go Go.Proofs
set_option maxRecDepth 100000
namespace Ev
set_option maxHeartbeats 1000000
def Zao.S:Zbb:=⟨1,[.ptr 0 0],[.box [.sc .str,.sc (.int .i64),.sc .bool]],[.str,.int .i64,.bool],⟨[.list [.int .i64],.list [.int .i64],.str,.int .i64,.bool],.tup [.sc (.list [.int .i64]),.sc (.list [.int .i64])],[.box [.sc .str,.sc (.int .i64),.sc .bool]]⟩,
 fun ((s,at_,bad):Str×Int×Bool)=>Zao s at_ bad⟩
theorem Zao.ev:∀d,ZbT C0 (hnd (tab [(113,Zdh.S),(153,Zbp.S),(154,Zbq.S),(155,ZaS.S)])) Tryz.f117 (.seq .u (.seq .u (.join ⟨[.int .i64,.int .i64,.int .i64,.str,.int .i64,.bool],[(0,.ptr 0 0),(4,.sc (.int .i64)),(5,.sc (.int .i64)),(6,.sc (.int .i64))],[.box [.sc .str,.sc (.int .i64),.sc .bool]]⟩ (.seq (.reg [.bool] [(29,.sc .bool)]) .u) (.seq .u (.seq (.seq .u (.blk (.loop ⟨[.int .i64,.int .i64,.list [.int .i64],.int .i64,.int .i64,.str,.int .i64,.bool,.list [.int .i64]],[(0,.ptr 0 0),(4,.sc (.int .i64)),(5,.sc (.int .i64)),(7,.full 1),(38,.sc (.list [.int .i64])),(39,.sc (.int .i64)),(40,.sc (.int .i64))],[.box [.sc .str,.sc (.int .i64),.sc .bool],.arr [.int .i64]]⟩ (fun ((lit1,dist1,t,t1,t2,o3,o4,o5,meta_):Int×Int×List Int×Int×Int×Str×Int×Bool×List Int)=>(t1-t2).toNat+1) 0 ⟨[.int .i64,.int .i64,.str,.int .i64,.bool,.list [.int .i64]],[(0,.ptr 0 0),(4,.sc (.int .i64)),(5,.sc (.int .i64)),(7,.full 1)],[.box [.sc .str,.sc (.int .i64),.sc .bool],.arr [.int .i64]]⟩ .u))) (.seq (.seq (.reg [.bool] [(58,.sc .bool)]) .u) (.seq .u (.seq .u (.seq (.blk (.loop ⟨[.int .i64,.int .i64,.str,.int .i64,.bool,.map [.int .i64,.int .i64] [.int .i64],.list [.int .i64]],[(0,.ptr 0 0),(4,.sc (.int .i64)),(5,.sc (.int .i64)),(10,.map 1),(11,.full 2)],[.box [.sc .str,.sc (.int .i64),.sc .bool],.map [.int .i64,.int .i64] [.int .i64],.arr [.int .i64]]⟩ (fun ((lit3,dist3,o9,o10,o11,o12,all):Int×Int×Str×Int×Bool×(List ((Int×Int)×Int))×List Int)=>((w64 (lit3+dist3))-(all.length:Int)).toNat+1) 2 ⟨[.int .i64,.int .i64,.str,.int .i64,.bool,.list [.int .i64]],[(0,.ptr 0 0),(4,.sc (.int .i64)),(5,.sc (.int .i64)),(11,.full 1)],[.box [.sc .str,.sc (.int .i64),.sc .bool],.arr [.int .i64]]⟩ (.seq (.seq (.reg [.bool] [(77,.sc .bool)]) .u) (.blk (.seq .u (.seq .u (.join ⟨[.int .i64,.int .i64,.int .i64,.int .i64,.str,.int .i64,.bool,.map [.int .i64,.int .i64] [.int .i64],.list [.int .i64]],[(0,.ptr 0 0),(4,.sc (.int .i64)),(5,.sc (.int .i64)),(10,.map 1),(11,.full 2),(13,.sc (.int .i64)),(14,.sc (.int .i64))],[.box [.sc .str,.sc (.int .i64),.sc .bool],.map [.int .i64,.int .i64] [.int .i64],.arr [.int .i64]]⟩ .u (.seq .u (.blk (.loop ⟨[.int .i64,.int .i64,.int .i64,.int .i64,.int .i64,.str,.int .i64,.bool,.map [.int .i64,.int .i64] [.int .i64],.list [.int .i64]],[(0,.ptr 0 0),(4,.sc (.int .i64)),(5,.sc (.int .i64)),(10,.map 1),(11,.full 2),(13,.sc (.int .i64)),(112,.sc (.int .i64)),(113,.sc (.int .i64))],[.box [.sc .str,.sc (.int .i64),.sc .bool],.map [.int .i64,.int .i64] [.int .i64],.arr [.int .i64]]⟩ (fun ((lit5,dist5,again_1,t3,t4,o17,o18,o19,o20,all2):Int×Int×Int×Int×Int×Str×Int×Bool×(List ((Int×Int)×Int))×List Int)=>(t3-t4).toNat+1) 5 ⟨[.int .i64,.int .i64,.str,.int .i64,.bool,.map [.int .i64,.int .i64] [.int .i64],.list [.int .i64]],[(0,.ptr 0 0),(4,.sc (.int .i64)),(5,.sc (.int .i64)),(10,.map 1),(11,.full 2)],[.box [.sc .str,.sc (.int .i64),.sc .bool],.map [.int .i64,.int .i64] [.int .i64],.arr [.int .i64]]⟩ .u)))))))))) (.seq (.seq (.reg [.bool] [(131,.sc .bool)]) .u) .u)))))))))) Zao.S d=Zao.S.F d:=fun _=>by kernel_rfl
theorem Zao.sound:Zak Tryz.prog C0 117 Zao.S:=sE ZbY Zao.ev (Zas ⟨Zdh.sound,Zbp.sound,Zbq.sound,ZaS.sound,trivial⟩) Tryz.func117
def Zbu.S:Zbb:=⟨1,[.ptr 0 0,.full 1,.sc (.list [.int .i64]),.sc (.list [.int .i64])],[.box [.sc .str,.sc (.int .i64),.sc .bool],.arr [.int .u8]],[.list [.int .i64],.list [.int .i64],.str,.int .i64,.bool,.list [.int .u8]],⟨[.str,.int .i64,.bool,.list [.int .u8]],.full 1,[.box [.sc .str,.sc (.int .i64),.sc .bool],.arr [.int .u8]]⟩,
 fun ((lit,dist,s,at_,bad,out):List Int×List Int×Str×Int×Bool×List Int)=>Zbu lit dist s at_ bad out⟩
theorem Zbu.ev:∀d,ZbT C0 (hnd (tab [(113,Zdh.S),(153,Zbp.S),(154,Zbq.S),(155,ZaS.S),(156,Zbk.S),(157,Zbl.S),(158,add.S)])) Tryz.f116 (.seq .u (.seq (.seq (.reg [.bool] [(29,.sc .bool)]) .u) (.seq .u (.seq (.blk (.loopS ⟨[.str,.int .i64,.bool,.list [.int .u8],.map [.int .i64,.int .i64] [.int .i64],.map [.int .i64,.int .i64] [.int .i64]],[(0,.ptr 0 0),(1,.full 1),(9,.map 2),(10,.map 3)],[.box [.sc .str,.sc (.int .i64),.sc .bool],.arr [.int .u8],.map [.int .i64,.int .i64] [.int .i64],.map [.int .i64,.int .i64] [.int .i64]]⟩ (fun ((o,o1,o2,out1,o3,o4):Str×Int×Bool×List Int×(List ((Int×Int)×Int))×List ((Int×Int)×Int))=>100000) 0 ⟨[.str,.int .i64,.bool,.list [.int .u8]],[(1,.full 1)],[.box [.sc .str,.sc (.int .i64),.sc .bool],.arr [.int .u8]]⟩ (.seq (.seq (.reg [.bool] [(47,.sc .bool)]) .u) (.blk (.seq .u (.seq (.blk (.seq (.reg [.bool] [(51,.sc .bool)]) .u)) (.seq (.cm [(1,[0]),(2,[0]),(3,[0]),(4,[0]),(5,[0])]) (.seq .u (.seq .u (.seq (.cm [(1,[0]),(2,[0]),(3,[0]),(4,[0])]) (.seq .u (.seq (.seq (.reg [.bool] [(129,.sc .bool)]) .u) .u)))))))))))) .u)))) Zbu.S d=Zbu.S.F d:=fun _=>by kernel_rfl
theorem Zbu.sound:Zak Tryz.prog C0 116 Zbu.S:=sE ZbY Zbu.ev (Zas ⟨Zdh.sound,Zbp.sound,Zbq.sound,ZaS.sound,Zbk.sound,Zbl.sound,add.sound,trivial⟩) Tryz.func116
def ZaE.S:Zbb:=⟨1,[.ptr 0 0,.full 1,.sc (.list [.int .i64]),.sc (.list [.int .i64])],[.box [.sc .str,.sc (.int .i64),.sc .bool],.arr [.int .u8]],[.list [.int .i64],.list [.int .i64],.str,.int .i64,.bool,.list [.int .u8]],⟨[.str,.int .i64,.bool],.undef,[.box [.sc .str,.sc (.int .i64),.sc .bool]]⟩,
 fun ((lit,dist,s,at_,bad,out):List Int×List Int×Str×Int×Bool×List Int)=>ZaE lit dist s at_ bad out⟩
theorem ZaE.ev:∀d,ZbT C0 (hnd (tab [(113,Zdh.S),(153,Zbp.S),(154,Zbq.S),(155,ZaS.S),(156,Zbk.S),(157,Zbl.S),(158,add.S)])) Tryz.f116 (.seq .u (.seq (.seq (.reg [.bool] [(29,.sc .bool)]) .u) (.seq .u (.seq (.blk (.loopS ⟨[.str,.int .i64,.bool,.list [.int .u8],.map [.int .i64,.int .i64] [.int .i64],.map [.int .i64,.int .i64] [.int .i64]],[(0,.ptr 0 0),(1,.full 1),(9,.map 2),(10,.map 3)],[.box [.sc .str,.sc (.int .i64),.sc .bool],.arr [.int .u8],.map [.int .i64,.int .i64] [.int .i64],.map [.int .i64,.int .i64] [.int .i64]]⟩ (fun ((o,o1,o2,out1,o3,o4):Str×Int×Bool×List Int×(List ((Int×Int)×Int))×List ((Int×Int)×Int))=>100000) 0 ⟨[.str,.int .i64,.bool,.list [.int .u8]],[(1,.full 1)],[.box [.sc .str,.sc (.int .i64),.sc .bool],.arr [.int .u8]]⟩ (.seq (.seq (.reg [.bool] [(47,.sc .bool)]) .u) (.blk (.seq .u (.seq (.blk (.seq (.reg [.bool] [(51,.sc .bool)]) .u)) (.seq (.cm [(1,[0]),(2,[0]),(3,[0]),(4,[0]),(5,[0])]) (.seq .u (.seq .u (.seq (.cm [(1,[0]),(2,[0]),(3,[0]),(4,[0])]) (.seq .u (.seq (.seq (.reg [.bool] [(129,.sc .bool)]) .u) .u)))))))))))) .u)))) ZaE.S d=ZaE.S.F d:=fun _=>by kernel_rfl
theorem ZaE.sound:Zak Tryz.prog C0 116 ZaE.S:=sE ZbY ZaE.ev (Zas ⟨Zdh.sound,Zbp.sound,Zbq.sound,ZaS.sound,Zbk.sound,Zbl.sound,add.sound,trivial⟩) Tryz.func116
def ZaW.S:Zbb:=⟨0,[.sc .str],[],[.str],⟨[.str,.int .i64,.bool],.tup [.sc .str,.sc (.int .i64),.sc .bool],[]⟩,
 fun (text:Str)=>ZaW text⟩
theorem ZaW.ev:∀d,ZbT C0 (hnd (tab [(112,ZfR.S),(113,Zdh.S),(114,Zbg.S),(115,ZaV.S),(116,Zbu.S),(116,ZaE.S),(117,Zao.S),(118,ZcQ.S)])) Tryz.f66 (.seq .u (.seq .u (.seq .u (.seq .u (.seq (.seq .u (.blk (.loopS ⟨[.bool,.str,.int .i64,.bool,.list [.int .u8]],[(5,.ptr 0 0),(6,.full 1),(7,.sc .bool)],[.box [.sc .str,.sc (.int .i64),.sc .bool],.arr [.int .u8]]⟩ (fun ((last,o,o1,o2,out):Bool×Str×Int×Bool×List Int)=>100000) 0 ⟨[.str,.int .i64,.bool,.list [.int .u8]],[(5,.ptr 0 0),(6,.full 1)],[.box [.sc .str,.sc (.int .i64),.sc .bool],.arr [.int .u8]]⟩ .u))) .u))))) ZaW.S d=ZaW.S.F d:=fun _=>by kernel_rfl
theorem ZaW.sound:Zak Tryz.prog C0 66 ZaW.S:=sE ZbY ZaW.ev (Zas ⟨ZfR.sound,Zdh.sound,Zbg.sound,ZaV.sound,Zbu.sound,ZaE.sound,Zao.sound,ZcQ.sound,trivial⟩) Tryz.func66
def ZmD.S:Zbb:=⟨0,[.sc (.int .i64),.sc (.int .i64)],[],[.int .i64,.int .i64],⟨[.int .i64],.sc (.int .i64),[]⟩,
 fun ((year,month):Int×Int)=>ZmD year month⟩
theorem ZmD.ev:∀d,ZbT C0 (hnd (tab [])) Tryz.f105 (.seq .u (.seq (.seq .u (.blk (.join ⟨[.int .i64,.int .i64,.bool],[(0,.sc (.int .i64)),(5,.sc (.int .i64)),(6,.sc .bool)],[]⟩ .u (.cond .u (.seq .u (.cond (.seq (.seq (.reg [.bool] [(25,.sc .bool)]) .u) .u) .u)))))) .u)) ZmD.S d=ZmD.S.F d:=fun _=>by kernel_rfl
theorem ZmD.sound:Zak Tryz.prog C0 105 ZmD.S:=sE ZbY ZmD.ev (Zas trivial) Tryz.func105
def ZbN.S:Zbb:=⟨0,[.agg [.sc (.int .i64),.sc (.int .i64),.sc (.int .i64),.sc (.int .i64),.sc (.int .i64),.sc (.int .i64)]],[],[.int .i64,.int .i64,.int .i64,.int .i64,.int .i64,.int .i64],⟨[.bool],.sc .bool,[]⟩,
 fun ((y,mo,d,h,mi,sec):Int×Int×Int×Int×Int×Int)=>ZbN y mo d h mi sec⟩
theorem ZbN.ev:∀d,ZbT C0 (hnd (tab [(104,Za1.S),(105,ZmD.S)])) Tryz.f60 (.seq .u (.seq (.reg [.bool] [(2,.sc .bool)]) .u)) ZbN.S d=ZbN.S.F d:=fun _=>by kernel_rfl
theorem ZbN.sound:Zak Tryz.prog C0 60 ZbN.S:=sE ZbY ZbN.ev (Zas ⟨Za1.sound,ZmD.sound,trivial⟩) Tryz.func60
def Zbx.S:Zbb:=⟨0,[.agg [.sc (.int .i64),.sc (.int .i64),.sc (.int .i64),.sc (.int .i64),.sc (.int .i64),.sc (.int .i64)]],[],[.int .i64,.int .i64,.int .i64,.int .i64,.int .i64,.int .i64],⟨[.int .i64],.sc (.int .i64),[]⟩,
 fun ((y,mo,d,h,mi,sec):Int×Int×Int×Int×Int×Int)=>Zbx y mo d h mi sec⟩
theorem Zbx.ev:∀d,ZbT C0 (hnd (tab [(60,ZbN.S)])) Tryz.f111 .u Zbx.S d=Zbx.S.F d:=fun _=>by kernel_rfl
theorem Zbx.sound:Zak Tryz.prog C0 111 Zbx.S:=sE ZbY Zbx.ev (Zas ⟨ZbN.sound,trivial⟩) Tryz.func111
def Zcm.S:Zbb:=⟨0,[.sc (.int .i64)],[],[.int .i64],⟨[.int .i64,.int .i64,.int .i64,.int .i64,.int .i64,.int .i64,.bool],.tup [.agg [.sc (.int .i64),.sc (.int .i64),.sc (.int .i64),.sc (.int .i64),.sc (.int .i64),.sc (.int .i64)],.sc .bool],[]⟩,
 fun (n:Int)=>Zcm n⟩
theorem Zcm.ev:∀d,ZbT C0 (hnd (tab [(111,Zbx.S)])) Tryz.f65 .u Zcm.S d=Zcm.S.F d:=fun _=>by kernel_rfl
theorem Zcm.sound:Zak Tryz.prog C0 65 Zcm.S:=sE ZbY Zcm.ev (Zas ⟨Zbx.sound,trivial⟩) Tryz.func65
def ZbE.S:Zbb:=⟨0,[.agg [.sc .str,.sc (.int .i64),.sc (.int .i64),.sc (.int .i64),.sc (.int .i64),.sc (.int .i64),.sc (.int .i64),.sc .str]],[],[.str,.int .i64,.int .i64,.int .i64,.int .i64,.int .i64,.int .i64,.str],⟨[.bool],.sc .bool,[]⟩,
 fun ((name,y,mo,d,h,mi,sec,text):Str×Int×Int×Int×Int×Int×Int×Str)=>ZbE name y mo d h mi sec text⟩
theorem ZbE.ev:∀d,ZbT C0 (hnd (tab [(49,Zat.S),(60,ZbN.S)])) Tryz.f28 (.seq .u (.seq (.reg [.bool] [(2,.sc .bool)]) .u)) ZbE.S d=ZbE.S.F d:=fun _=>by kernel_rfl
theorem ZbE.sound:Zak Tryz.prog C0 28 ZbE.S:=sE ZbY ZbE.ev (Zas ⟨Zat.sound,ZbN.sound,trivial⟩) Tryz.func28
def Za2.S:Zbb:=⟨0,[.sc (.int .i64),.sc (.int .i64)],[],[.int .i64,.int .i64],⟨[.str],.sc .str,[]⟩,
 fun ((n,bytes):Int×Int)=>Za2 n bytes⟩
theorem Za2.ev:∀d,ZbT C0 (hnd (tab [])) Tryz.f100 (.seq .u (.seq .u (.seq (.seq .u (.blk (.loop ⟨[.int .i64,.int .i64,.int .i64,.list [.int .u8]],[(0,.sc (.int .i64)),(5,.full 0),(7,.sc (.int .i64)),(8,.sc (.int .i64))],[.arr [.int .u8]]⟩ (fun ((n1,t,t1,out):Int×Int×Int×List Int)=>(t-t1).toNat+1) 0 ⟨[.list [.int .u8]],[(5,.full 0)],[.arr [.int .u8]]⟩ .u))) .u))) Za2.S d=Za2.S.F d:=fun _=>by kernel_rfl
theorem Za2.sound:Zak Tryz.prog C0 100 Za2.S:=sE ZbY Za2.ev (Zas trivial) Tryz.func100
def ZaJ.S:Zbb:=⟨0,[.sc .str,.sc (.int .i64),.sc (.int .i64)],[],[.str,.int .i64,.int .i64],⟨[.int .i64],.sc (.int .i64),[]⟩,
 fun ((s,at_,bytes):Str×Int×Int)=>ZaJ s at_ bytes⟩
theorem ZaJ.ev:∀d,ZbT C0 (hnd (tab [])) Tryz.f64 (.seq .u (.seq .u (.seq (.seq .u (.blk (.loop ⟨[.str,.int .i64,.int .i64,.int .i64],[(0,.sc .str),(1,.sc (.int .i64)),(7,.sc (.int .i64)),(8,.sc (.int .i64))],[]⟩ (fun ((s1,at_1,n,k):Str×Int×Int×Int)=>(k-0).toNat+2) 0 ⟨[.int .i64],[(7,.sc (.int .i64))],[]⟩ .u))) .u))) ZaJ.S d=ZaJ.S.F d:=fun _=>by kernel_rfl
theorem ZaJ.sound:Zak Tryz.prog C0 64 ZaJ.S:=sE ZbY ZaJ.ev (Zas trivial) Tryz.func64
def ZcE.S:Zbb:=⟨0,[.agg [.sc .str,.sc (.int .i64),.sc (.int .i64),.sc (.int .i64),.sc (.int .i64),.sc (.int .i64),.sc (.int .i64),.sc .str],.sc (.int .i64),.sc (.int .i64)],[],[.str,.int .i64,.int .i64,.int .i64,.int .i64,.int .i64,.int .i64,.str,.int .i64,.int .i64],⟨[.str],.sc .str,[]⟩,
 fun ((name,y,mo,d,h,mi,sec,text,method,packed):Str×Int×Int×Int×Int×Int×Int×Str×Int×Int)=>ZcE name y mo d h mi sec text method packed⟩
theorem ZcE.ev:∀d,ZbT C0 (hnd (tab [(100,Za2.S),(111,Zbx.S),(119,crc.S)])) Tryz.f67 .u ZcE.S d=ZcE.S.F d:=fun _=>by kernel_rfl
theorem ZcE.sound:Zak Tryz.prog C0 67 ZcE.S:=sE ZbY ZcE.ev (Zas ⟨Za2.sound,Zbx.sound,crc.sound,trivial⟩) Tryz.func67
def Zcn.S:Zbb:=⟨0,[.agg [.sc .str,.sc (.int .i64),.sc (.int .i64),.sc (.int .i64),.sc (.int .i64),.sc (.int .i64),.sc (.int .i64),.sc .str]],[],[.str,.int .i64,.int .i64,.int .i64,.int .i64,.int .i64,.int .i64,.str],⟨[.str],.sc .str,[]⟩,
 fun ((name,y,mo,d,h,mi,sec,text):Str×Int×Int×Int×Int×Int×Int×Str)=>Zcn name y mo d h mi sec text⟩
theorem Zcn.ev:∀d,ZbT C0 (hnd (tab [(28,ZbE.S),(67,ZcE.S),(72,ZaH.S)])) Tryz.f27 .u Zcn.S d=Zcn.S.F d:=fun _=>by kernel_rfl
theorem Zcn.sound:Zak Tryz.prog C0 27 Zcn.S:=sE ZbY Zcn.ev (Zas ⟨ZbE.sound,ZcE.sound,ZaH.sound,trivial⟩) Tryz.func27
def Zco.S:Zbb:=⟨0,[.sc .str],[],[.str],⟨[.str,.int .i64,.int .i64,.int .i64,.int .i64,.int .i64,.int .i64,.str,.int .i64,.bool],.tup [.agg [.sc .str,.sc (.int .i64),.sc (.int .i64),.sc (.int .i64),.sc (.int .i64),.sc (.int .i64),.sc (.int .i64),.sc .str],.sc (.int .i64),.sc .bool],[]⟩,
 fun (text:Str)=>Zco text⟩
theorem Zco.ev:∀d,ZbT C0 (hnd (tab [(28,ZbE.S),(64,ZaJ.S),(65,Zcm.S),(66,ZaW.S),(67,ZcE.S)])) Tryz.f24 (.seq .u (.seq .u (.seq .u (.seq .u (.seq (.seq (.reg [.bool] [(36,.sc .bool)]) .u) (.seq .u (.seq .u (.joinS ⟨[.str,.int .i64,.int .i64,.int .i64,.str,.int .i64,.int .i64,.int .i64,.int .i64,.int .i64,.int .i64,.str,.str,.int .i64,.int .i64,.int .i64,.int .i64,.int .i64,.int .i64,.str],[(0,.sc .str),(2,.ptr 0 0),(5,.sc (.int .i64)),(6,.sc (.int .i64)),(7,.sc (.int .i64)),(9,.ptr 1 0)],[.box [.sc .str,.sc (.int .i64),.sc (.int .i64),.sc (.int .i64),.sc (.int .i64),.sc (.int .i64),.sc (.int .i64),.sc .str],.box [.sc .str,.sc (.int .i64),.sc (.int .i64),.sc (.int .i64),.sc (.int .i64),.sc (.int .i64),.sc (.int .i64),.sc .str]]⟩ (.seq .u (.blk (.seq .u (.cond .u (.seq .u (.cond (.seq .u (.seq (.seq (.reg [.bool] [(74,.sc .bool)]) .u) .u)) .u)))))) (.seq (.seq (.reg [.bool] [(89,.sc .bool)]) .u) .u))))))))) Zco.S d=Zco.S.F d:=fun _=>by kernel_rfl
theorem Zco.sound:Zak Tryz.prog C0 24 Zco.S:=sE ZbY Zco.ev (Zas ⟨ZbE.sound,ZaJ.sound,Zcm.sound,ZaW.sound,ZcE.sound,trivial⟩) Tryz.func24
def joinS.S:Zbb:=Zon
theorem joinS.sound:Zak Tryz.prog C0 53 joinS.S:=Zpz Tryz.lays156 Tryz.Builder_Extra_156 Tryz.func53 (by kernel_rfl) (by kernel_rfl)
def Zbs.S:Zbb:=⟨0,[.sc (.list [.str,.int .i64,.int .i64,.int .i64,.int .i64,.int .i64,.int .i64,.str])],[],[.list [.str,.int .i64,.int .i64,.int .i64,.int .i64,.int .i64,.int .i64,.str]],⟨[.list [.str]],.full 0,[.arr [.str]]⟩,
 fun (list:List (Str×Int×Int×Int×Int×Int×Int×Str))=>Zbs list⟩
theorem Zbs.ev:∀d,ZbT C0 (hnd (tab [])) Tryz.f73 (.seq .u (.seq .u (.seq (.seq .u (.blk (.loop ⟨[.list [.str,.int .i64,.int .i64,.int .i64,.int .i64,.int .i64,.int .i64,.str],.int .i64,.int .i64,.list [.str]],[(3,.full 0),(7,.sc (.list [.str,.int .i64,.int .i64,.int .i64,.int .i64,.int .i64,.int .i64,.str])),(8,.sc (.int .i64)),(9,.sc (.int .i64))],[.arr [.str]]⟩ (fun ((t,t1,t2,out):(List (Str×Int×Int×Int×Int×Int×Int×Str))×Int×Int×List Str)=>(t1-t2).toNat+1) 0 ⟨[.list [.str]],[(3,.full 0)],[.arr [.str]]⟩ .u))) .u))) Zbs.S d=Zbs.S.F d:=fun _=>by kernel_rfl
theorem Zbs.sound:Zak Tryz.prog C0 73 Zbs.S:=sE ZbY Zbs.ev (Zas trivial) Tryz.func73
def ZcG.S:Zbb:=⟨0,[.sc (.list [.str,.int .i64,.int .i64,.int .i64,.int .i64,.int .i64,.int .i64,.str])],[],[.list [.str,.int .i64,.int .i64,.int .i64,.int .i64,.int .i64,.int .i64,.str]],⟨[.bool],.sc .bool,[]⟩,
 fun (list:List (Str×Int×Int×Int×Int×Int×Int×Str))=>ZcG list⟩
theorem ZcG.ev:∀d,ZbT C0 (hnd (tab [(28,ZbE.S),(50,ZbX.S),(73,Zbs.S)])) Tryz.f30 (.seq .u (.seq (.seq .u (.blk (.loopS ⟨[.list [.str,.int .i64,.int .i64,.int .i64,.int .i64,.int .i64,.int .i64,.str],.list [.str,.int .i64,.int .i64,.int .i64,.int .i64,.int .i64,.int .i64,.str],.int .i64,.int .i64],[(0,.sc (.list [.str,.int .i64,.int .i64,.int .i64,.int .i64,.int .i64,.int .i64,.str])),(5,.sc (.list [.str,.int .i64,.int .i64,.int .i64,.int .i64,.int .i64,.int .i64,.str])),(6,.sc (.int .i64)),(7,.sc (.int .i64))],[]⟩ (fun ((list1,t,t1,t2):(List (Str×Int×Int×Int×Int×Int×Int×Str))×(List (Str×Int×Int×Int×Int×Int×Int×Str))×Int×Int)=>(t1-t2).toNat+1) 0 ⟨[.list [.str,.int .i64,.int .i64,.int .i64,.int .i64,.int .i64,.int .i64,.str]],[(0,.sc (.list [.str,.int .i64,.int .i64,.int .i64,.int .i64,.int .i64,.int .i64,.str]))],[]⟩ .u))) .u)) ZcG.S d=ZcG.S.F d:=fun _=>by kernel_rfl
theorem ZcG.sound:Zak Tryz.prog C0 30 ZcG.S:=sE ZbY ZcG.ev (Zas ⟨ZbE.sound,ZbX.sound,Zbs.sound,trivial⟩) Tryz.func30
def Za7.S:Zbb:=⟨0,[.sc (.list [.str])],[],[.list [.str]],⟨[.str],.sc .str,[]⟩,
 fun (locals:List Str)=>Za7 locals⟩
theorem Za7.ev:∀d,ZbT C0 (hnd (tab [(64,ZaJ.S),(100,Za2.S)])) Tryz.f54 (.seq .u (.seq .u (.seq .u (.seq (.seq .u (.blk (.loop ⟨[.list [.str],.str,.int .i64,.list [.str],.int .i64,.int .i64],[(0,.sc (.list [.str])),(3,.sc .str),(4,.sc (.int .i64)),(9,.sc (.list [.str])),(10,.sc (.int .i64)),(11,.sc (.int .i64))],[]⟩ (fun ((locals1,heads,at_,t,t1,t2):List Str×Str×Int×List Str×Int×Int)=>(t1-t2).toNat+1) 0 ⟨[.list [.str],.str,.int .i64],[(0,.sc (.list [.str])),(3,.sc .str),(4,.sc (.int .i64))],[]⟩ .u))) .u)))) Za7.S d=Za7.S.F d:=fun _=>by kernel_rfl
theorem Za7.sound:Zak Tryz.prog C0 54 Za7.S:=sE ZbY Za7.ev (Zas ⟨ZaJ.sound,Za2.sound,trivial⟩) Tryz.func54
def Zbo.S:Zbb:=⟨0,[.sc (.list [.str,.int .i64,.int .i64,.int .i64,.int .i64,.int .i64,.int .i64,.str])],[],[.list [.str,.int .i64,.int .i64,.int .i64,.int .i64,.int .i64,.int .i64,.str]],⟨[.str],.sc .str,[]⟩,
 fun (list:List (Str×Int×Int×Int×Int×Int×Int×Str))=>Zbo list⟩
theorem Zbo.ev:∀d,ZbT C0 (hnd (tab [(27,Zcn.S),(30,ZcG.S),(53,joinS.S),(54,Za7.S)])) Tryz.f18 (.seq .u (.seq .u (.seq .u (.seq (.seq .u (.blk (.loop ⟨[.list [.str,.int .i64,.int .i64,.int .i64,.int .i64,.int .i64,.int .i64,.str],.int .i64,.int .i64,.list [.str]],[(3,.full 0),(10,.sc (.list [.str,.int .i64,.int .i64,.int .i64,.int .i64,.int .i64,.int .i64,.str])),(11,.sc (.int .i64)),(12,.sc (.int .i64))],[.arr [.str]]⟩ (fun ((t,t1,t2,locals):(List (Str×Int×Int×Int×Int×Int×Int×Str))×Int×Int×List Str)=>(t1-t2).toNat+1) 0 ⟨[.list [.str]],[(3,.full 0)],[.arr [.str]]⟩ .u))) .u)))) Zbo.S d=Zbo.S.F d:=fun _=>by kernel_rfl
theorem Zbo.sound:Zak Tryz.prog C0 18 Zbo.S:=sE ZbY Zbo.ev (Zas ⟨Zcn.sound,ZcG.sound,joinS.sound,Za7.sound,trivial⟩) Tryz.func18
def Zb2.S:Zbb:=⟨0,[.sc .str],[],[.str],⟨[.bool,.list [.str,.int .i64,.int .i64,.int .i64,.int .i64,.int .i64,.int .i64,.str]],.tup [.full 0,.sc .bool],[.arr [.str,.int .i64,.int .i64,.int .i64,.int .i64,.int .i64,.int .i64,.str]]⟩,
 fun (text:Str)=>Zb2 text⟩
theorem Zb2.ev:∀d,ZbT C0 (hnd (tab [(24,Zco.S),(30,ZcG.S),(54,Za7.S)])) Tryz.f29 (.seq .u (.seq .u (.seq .u (.seq .u (.seq (.blk (.loop ⟨[.str,.list [.str,.int .i64,.int .i64,.int .i64,.int .i64,.int .i64,.int .i64,.str],.list [.str]],[(4,.full 0),(5,.full 1),(6,.sc .str)],[.arr [.str,.int .i64,.int .i64,.int .i64,.int .i64,.int .i64,.int .i64,.str],.arr [.str]]⟩ (fun ((rest,out,locals):Str×(List (Str×Int×Int×Int×Int×Int×Int×Str))×List Str)=>(6-(out.length:Int)).toNat+1) 0 ⟨[.str,.list [.str,.int .i64,.int .i64,.int .i64,.int .i64,.int .i64,.int .i64,.str],.list [.str]],[(4,.full 0),(5,.full 1),(6,.sc .str)],[.arr [.str,.int .i64,.int .i64,.int .i64,.int .i64,.int .i64,.int .i64,.str],.arr [.str]]⟩ .u)) (.seq (.seq (.reg [.bool] [(45,.sc .bool)]) .u) .u)))))) Zb2.S d=Zb2.S.F d:=fun _=>by kernel_rfl
theorem Zb2.sound:Zak Tryz.prog C0 29 Zb2.S:=sE ZbY Zb2.ev (Zas ⟨Zco.sound,ZcG.sound,Za7.sound,trivial⟩) Tryz.func29
def Zb3.S:Zbb:=⟨1,[.agg [.sc .str,.sc .str],.ptr 0 0],[.box [.sc .str,.sc .str]],[.str,.str,.str,.str],⟨[.bool,.str,.str],.sc .bool,[.box [.sc .str,.sc .str]]⟩,
 fun ((xp,xt,path,text):Str×Str×Str×Str)=>Zb3 xp xt path text⟩
theorem Zb3.ev:∀d,ZbT C0 (hnd (tab [])) Tryz.f56 .u Zb3.S d=Zb3.S.F d:=fun _=>by kernel_rfl
theorem Zb3.sound:Zak Tryz.prog C0 56 Zb3.S:=sE ZbY Zb3.ev (Zas trivial) Tryz.func56
def ZaB.S:Zbb:=⟨1,[.sc (.list [.str,.str]),.fn 56 [] [.ptr 0 0]],[.box [.sc .str,.sc .str]],[.list [.str,.str],.str,.str],⟨[.int .i64,.str,.str],.sc (.int .i64),[.box [.sc .str,.sc .str]]⟩,
 fun ((list,path,text):(List (Str×Str))×Str×Str)=>ZaB list path text⟩
theorem ZaB.ev:∀d,ZbT C0 (hnd (tab [(56,Zb3.S)])) Tryz.f55 (.seq .u (.seq (.seq .u (.blk (.loopS ⟨[.list [.str,.str],.int .i64,.int .i64,.str,.str],[(0,.sc (.list [.str,.str])),(1,.fn 56 [] [.ptr 0 0]),(7,.sc (.int .i64)),(8,.sc (.int .i64))],[.box [.sc .str,.sc .str]]⟩ (fun ((s,t,t1,o,o1):(List (Str×Str))×Int×Int×Str×Str)=>(t-t1).toNat+1) 0 ⟨[.str,.str],[],[.box [.sc .str,.sc .str]]⟩ .u))) .u)) ZaB.S d=ZaB.S.F d:=fun _=>by kernel_rfl
theorem ZaB.sound:Zak Tryz.prog C0 55 ZaB.S:=sE ZbY ZaB.ev (Zas ⟨Zb3.sound,trivial⟩) Tryz.func55
def ZlG.S:Zbb:=⟨1,[.full 0,.fn 58 [] []],[.arr [.str,.str]],[.list [.str,.str]],⟨[.list [.str,.str]],.tup [],[.arr [.str,.str]]⟩,fun (list:List (Str×Str))=>ZlF list⟩
theorem ZlG.sound:Zak Tryz.prog C0 57 ZlG.S:=Zo4 Tryz.laysSort Tryz.isAgg28 Tryz.sizeOf28 (enters_of Tryz.func58 (by kernel_rfl) rfl) (hc_of ZpR) Tryz.func57 (by kernel_rfl) (by kernel_rfl)
def ZaR.S:Zbb:=⟨0,[.sc (.list [.str,.str]),.sc .str],[],[.list [.str,.str],.str],⟨[.int .i64,.list [.str,.str]],.tup [.full 0,.sc (.int .i64)],[.arr [.str,.str]]⟩,
 fun ((t,text):(List (Str×Str))×Str)=>ZaR t text⟩
theorem ZaR.ev:∀d,ZbT C0 (hnd (tab [(16,Zal.S),(29,Zb2.S),(55,ZaB.S),(57,ZlG.S)])) Tryz.f19 (.seq .u (.seq .u (.seq (.seq (.reg [.bool] [(24,.sc .bool)]) .u) (.seq .u (.seq (.seq .u (.blk (.loop ⟨[.list [.str,.str],.int .i64,.int .i64,.list [.str,.str],.list [.str,.int .i64,.int .i64,.int .i64,.int .i64,.int .i64,.int .i64,.str]],[(0,.sc (.list [.str,.str])),(8,.full 0),(29,.full 1),(30,.sc (.int .i64)),(31,.sc (.int .i64))],[.arr [.str,.str],.arr [.str,.int .i64,.int .i64,.int .i64,.int .i64,.int .i64,.int .i64,.str]]⟩ (fun ((t1,t2,t3,out,o):(List (Str×Str))×Int×Int×(List (Str×Str))×List (Str×Int×Int×Int×Int×Int×Int×Str))=>(t2-t3).toNat+1) 0 ⟨[.list [.str,.str],.list [.str,.str]],[(0,.sc (.list [.str,.str])),(8,.full 0)],[.arr [.str,.str]]⟩ .u))) .u))))) ZaR.S d=ZaR.S.F d:=fun _=>by kernel_rfl
theorem ZaR.sound:Zak Tryz.prog C0 19 ZaR.S:=sE ZbY ZaR.ev (Zas ⟨Zal.sound,Zb2.sound,ZaB.sound,ZlG.sound,trivial⟩) Tryz.func19
end Ev
end
section
open Go Go.Proofs
set_option maxRecDepth 100000
namespace Ev
set_option maxHeartbeats 1000000
def Zbr.S:Zbb:=⟨0,[.sc (.list [.str,.str]),.sc .str,.agg [.sc (.int .i64),.sc (.int .i64),.sc (.int .i64),.sc (.int .i64),.sc (.int .i64),.sc (.int .i64)]],[],[.list [.str,.str],.str,.int .i64,.int .i64,.int .i64,.int .i64,.int .i64,.int .i64],⟨[.str,.int .i64],.tup [.sc .str,.sc (.int .i64)],[]⟩,
 fun ((t,place,y,mo,d,h,mi,sec):(List (Str×Str))×Str×Int×Int×Int×Int×Int×Int)=>Zbr t place y mo d h mi sec⟩
theorem Zbr.ev:∀d,ZbT C0 (hnd (tab [(16,Zal.S),(18,Zbo.S),(49,Zat.S),(60,ZbN.S),(61,Zbe.S)])) Tryz.f21 (.seq .u (.seq (.seq (.reg [.bool] [(27,.sc .bool)]) .u) (.seq .u (.seq (.seq .u (.blk (.loop ⟨[.str,.list [.str,.str],.int .i64,.int .i64,.int .i64,.int .i64,.int .i64,.int .i64,.int .i64,.int .i64,.list [.str,.int .i64,.int .i64,.int .i64,.int .i64,.int .i64,.int .i64,.str]],[(1,.sc .str),(5,.ptr 0 0),(8,.full 1),(29,.sc (.list [.str,.str])),(30,.sc (.int .i64)),(31,.sc (.int .i64))],[.box [.sc (.int .i64),.sc (.int .i64),.sc (.int .i64),.sc (.int .i64),.sc (.int .i64),.sc (.int .i64)],.arr [.str,.int .i64,.int .i64,.int .i64,.int .i64,.int .i64,.int .i64,.str]]⟩ (fun ((place1,t1,t2,t3,o,o1,o2,o3,o4,o5,list):Str×(List (Str×Str))×Int×Int×Int×Int×Int×Int×Int×Int×List (Str×Int×Int×Int×Int×Int×Int×Str))=>(t2-t3).toNat+1) 0 ⟨[.list [.str,.int .i64,.int .i64,.int .i64,.int .i64,.int .i64,.int .i64,.str]],[(8,.full 0)],[.arr [.str,.int .i64,.int .i64,.int .i64,.int .i64,.int .i64,.int .i64,.str]]⟩ (.seq .u (.seq .u (.seq (.blk (.seq .u (.seq (.reg [.bool] [(49,.sc .bool)]) .u))) .u)))))) .u)))) Zbr.S d=Zbr.S.F d:=fun _=>by kernel_rfl
theorem Zbr.sound:Zak Tryz.prog C0 21 Zbr.S:=sE ZbY Zbr.ev (Zas ⟨Zal.sound,Zbo.sound,Zat.sound,ZbN.sound,Zbe.sound,trivial⟩) Tryz.func21
def ZcO.S:Zbb:=⟨0,[.sc (.list [.str,.str]),.agg [.sc .str,.sc .str]],[],[.list [.str,.str],.str,.str],⟨[.list [.str,.str]],.full 0,[.arr [.str,.str]]⟩,
 fun ((xs,path,text):(List (Str×Str))×Str×Str)=>ZcO xs path text⟩
theorem ZcO.ev:∀d,ZbT C0 (hnd (tab [])) Tryz.f134 (.seq .u (.seq .u (.seq (.blk (.loop ⟨[.list [.str,.str],.int .i64,.str,.str],[(0,.sc (.list [.str,.str])),(3,.ptr 0 0),(5,.sc (.int .i64))],[.box [.sc .str,.sc .str]]⟩ (fun ((t,k,o,o1):(List (Str×Str))×Int×Str×Str)=>((t.length:Int)-k).toNat+1) 0 ⟨[.list [.str,.str],.int .i64,.str,.str],[(0,.sc (.list [.str,.str])),(3,.ptr 0 0),(5,.sc (.int .i64))],[.box [.sc .str,.sc .str]]⟩ (.seq (.seq (.reg [.bool] [(19,.sc .bool)]) .u) .u))) (.seq (.seq (.reg [.bool] [(35,.sc .bool)]) .u) .u)))) ZcO.S d=ZcO.S.F d:=fun _=>by kernel_rfl
theorem ZcO.sound:Zak Tryz.prog C0 134 ZcO.S:=sE ZbY ZcO.ev (Zas trivial) Tryz.func134
def ZdP.S:Zbb:=⟨0,[.sc (.list [.int .u8])],[],[.list [.int .u8]],⟨[.list [.int .u8],.int .i64],.ptr 0 0,[.box [.sc (.list [.int .u8]),.sc (.int .i64)]]⟩,
 fun (code_:List Int)=>ZdP code_⟩
theorem ZdP.ev:∀d,ZbT C0 (hnd (tab [])) Tryz.f48 .u ZdP.S d=ZdP.S.F d:=fun _=>by kernel_rfl
theorem ZdP.sound:Zak Tryz.prog C0 48 ZdP.S:=sE ZbY ZdP.ev (Zas trivial) Tryz.func48
def pick.S:Zbb:=⟨1,[.ptr 0 0,.sc (.int .i64)],[.box [.sc (.list [.int .u8]),.sc (.int .i64)]],[.int .i64,.list [.int .u8],.int .i64],⟨[.int .i64,.list [.int .u8],.int .i64],.sc (.int .i64),[.box [.sc (.list [.int .u8]),.sc (.int .i64)]]⟩,
 fun ((n,b,p):Int×List Int×Int)=>pick n b p⟩
theorem pick.ev:∀d,ZbT C0 (hnd (tab [])) Tryz.f78 (.seq .u (.seq .u (.seq (.seq (.reg [.bool] [(24,.sc .bool)]) .u) .u))) pick.S d=pick.S.F d:=fun _=>by kernel_rfl
theorem pick.sound:Zak Tryz.prog C0 78 pick.S:=sE ZbY pick.ev (Zas trivial) Tryz.func78
def ZhQ.S:Zbb:=⟨1,[.ptr 0 0,.sc (.list [.str])],[.box [.sc (.list [.int .u8]),.sc (.int .i64)]],[.list [.str],.list [.int .u8],.int .i64],⟨[.str,.list [.int .u8],.int .i64],.sc .str,[.box [.sc (.list [.int .u8]),.sc (.int .i64)]]⟩,
 fun ((xs,b,p):List Str×List Int×Int)=>ZhQ xs b p⟩
theorem ZhQ.ev:∀d,ZbT C0 (hnd (tab [(78,pick.S)])) Tryz.f84 .u ZhQ.S d=ZhQ.S.F d:=fun _=>by kernel_rfl
theorem ZhQ.sound:Zak Tryz.prog C0 84 ZhQ.S:=sE ZbY ZhQ.ev (Zas ⟨pick.sound,trivial⟩) Tryz.func84
def Zch.S:Zbb:=⟨0,[.sc .str,.sc (.int .i64)],[],[.str,.int .i64],⟨[.str],.sc .str,[]⟩,
 fun ((s,n):Str×Int)=>Zch s n⟩
theorem Zch.ev:∀d,ZbT C0 (hnd (tab [])) Tryz.f135 (.seq .u (.seq .u (.seq (.blk (.loop ⟨[.str,.int .i64,.str],[(0,.sc .str),(1,.sc (.int .i64)),(5,.sc .str)],[]⟩ (fun ((s1,n1,out):Str×Int×Str)=>n1.toNat+1) 0 ⟨[.str],[(5,.sc .str)],[]⟩ .u)) .u))) Zch.S d=Zch.S.F d:=fun _=>by kernel_rfl
theorem Zch.sound:Zak Tryz.prog C0 135 Zch.S:=sE ZbY Zch.ev (Zas trivial) Tryz.func135
def Zbh.S:Zbb:=⟨1,[.ptr 0 0],[.box [.sc (.list [.int .u8]),.sc (.int .i64)]],[.list [.int .u8],.int .i64],⟨[.str,.list [.int .u8],.int .i64],.sc .str,[.box [.sc (.list [.int .u8]),.sc (.int .i64)]]⟩,
 fun ((b,p):List Int×Int)=>Zbh b p⟩
theorem Zbh.ev:∀d,ZbT C0 (hnd (tab [(78,pick.S),(84,ZhQ.S),(135,Zch.S)])) Tryz.f122 (.seq .u (.seq (.seq .u (.blk (.seq .u (.cond .u (.seq .u (.cond .u (.seq .u (.cond (.seq .u (.seq (.seq .u (.blk (.loop ⟨[.int .i64,.list [.int .u8],.int .i64,.list [.int .u8]],[(0,.ptr 0 0),(3,.full 1),(4,.sc (.int .i64))],[.box [.sc (.list [.int .u8]),.sc (.int .i64)],.arr [.int .u8]]⟩ (fun ((n,o,o1,out):Int×List Int×Int×List Int)=>(n-0).toNat+1) 1 ⟨[.list [.int .u8],.int .i64,.list [.int .u8]],[(3,.full 1)],[.box [.sc (.list [.int .u8]),.sc (.int .i64)],.arr [.int .u8]]⟩ .u))) .u)) .u)))))))) (.seq .u (.seq (.seq .u (.blk (.loop ⟨[.str,.int .i64,.list [.int .u8],.int .i64],[(0,.ptr 0 0),(5,.sc .str),(6,.sc (.int .i64))],[.box [.sc (.list [.int .u8]),.sc (.int .i64)]]⟩ (fun ((out2,n1,o4,o5):Str×Int×List Int×Int)=>(n1-0).toNat+1) 3 ⟨[.str,.list [.int .u8],.int .i64],[(5,.sc .str)],[.box [.sc (.list [.int .u8]),.sc (.int .i64)]]⟩ .u))) .u)))) Zbh.S d=Zbh.S.F d:=fun _=>by kernel_rfl
theorem Zbh.sound:Zak Tryz.prog C0 122 Zbh.S:=sE ZbY Zbh.ev (Zas ⟨pick.sound,ZhQ.sound,Zch.sound,trivial⟩) Tryz.func122
def ZbA.S:Zbb:=⟨1,[.ptr 0 0],[.box [.sc (.list [.int .u8]),.sc (.int .i64)]],[.list [.int .u8],.int .i64],⟨[.str,.list [.int .u8],.int .i64],.sc .str,[.box [.sc (.list [.int .u8]),.sc (.int .i64)]]⟩,
 fun ((b,p):List Int×Int)=>ZbA b p⟩
theorem ZbA.ev:∀d,ZbT C0 (hnd (tab [(78,pick.S),(122,Zbh.S),(135,Zch.S)])) Tryz.f94 .u ZbA.S d=ZbA.S.F d:=fun _=>by kernel_rfl
theorem ZbA.sound:Zak Tryz.prog C0 94 ZbA.S:=sE ZbY ZbA.ev (Zas ⟨pick.sound,Zbh.sound,Zch.sound,trivial⟩) Tryz.func94
def Zcd.S:Zbb:=⟨1,[.ptr 0 0],[.box [.sc (.list [.int .u8]),.sc (.int .i64)]],[.list [.int .u8],.int .i64],⟨[.str,.list [.int .u8],.int .i64],.sc .str,[.box [.sc (.list [.int .u8]),.sc (.int .i64)]]⟩,
 fun ((b,p):List Int×Int)=>Zcd b p⟩
theorem Zcd.ev:∀d,ZbT C0 (hnd (tab [(84,ZhQ.S)])) Tryz.f120 .u Zcd.S d=Zcd.S.F d:=fun _=>by kernel_rfl
theorem Zcd.sound:Zak Tryz.prog C0 120 Zcd.S:=sE ZbY Zcd.ev (Zas ⟨ZhQ.sound,trivial⟩) Tryz.func120
def ZbB.S:Zbb:=⟨1,[.ptr 0 0],[.box [.sc (.list [.int .u8]),.sc (.int .i64)]],[.list [.int .u8],.int .i64],⟨[.str,.list [.int .u8],.int .i64],.sc .str,[.box [.sc (.list [.int .u8]),.sc (.int .i64)]]⟩,
 fun ((b,p):List Int×Int)=>ZbB b p⟩
theorem ZbB.ev:∀d,ZbT C0 (hnd (tab [(78,pick.S),(84,ZhQ.S),(120,Zcd.S)])) Tryz.f93 .u ZbB.S d=ZbB.S.F d:=fun _=>by kernel_rfl
theorem ZbB.sound:Zak Tryz.prog C0 93 ZbB.S:=sE ZbY ZbB.ev (Zas ⟨pick.sound,ZhQ.sound,Zcd.sound,trivial⟩) Tryz.func93
def Zb5.S:Zbb:=⟨1,[.ptr 0 0],[.box [.sc (.list [.int .u8]),.sc (.int .i64)]],[.list [.int .u8],.int .i64],⟨[.list [.int .u8],.int .i64,.list [.str,.str]],.full 1,[.box [.sc (.list [.int .u8]),.sc (.int .i64)],.arr [.str,.str]]⟩,
 fun ((b,p):List Int×Int)=>Zb5 b p⟩
theorem Zb5.ev:∀d,ZbT C0 (hnd (tab [(17,Zag.S),(78,pick.S),(120,Zcd.S),(122,Zbh.S),(134,ZcO.S)])) Tryz.f92 (.seq .u (.seq .u (.seq (.seq .u (.blk (.loop ⟨[.int .i64,.list [.int .u8],.int .i64,.list [.str,.str]],[(0,.ptr 0 0),(3,.full 1),(4,.sc (.int .i64))],[.box [.sc (.list [.int .u8]),.sc (.int .i64)],.arr [.str,.str]]⟩ (fun ((n,o,o1,out):Int×List Int×Int×List (Str×Str))=>(n-0).toNat+1) 0 ⟨[.list [.int .u8],.int .i64,.list [.str,.str]],[(3,.full 1)],[.box [.sc (.list [.int .u8]),.sc (.int .i64)],.arr [.str,.str]]⟩ .u))) .u))) Zb5.S d=Zb5.S.F d:=fun _=>by kernel_rfl
theorem Zb5.sound:Zak Tryz.prog C0 92 Zb5.S:=sE ZbY Zb5.ev (Zas ⟨Zag.sound,pick.sound,Zcd.sound,Zbh.sound,ZcO.sound,trivial⟩) Tryz.func92
def Zbz.S:Zbb:=⟨1,[.ptr 0 0],[.box [.sc (.list [.int .u8]),.sc (.int .i64)]],[.list [.int .u8],.int .i64],⟨[.list [.int .u8],.int .i64,.list [.str,.str]],.full 1,[.box [.sc (.list [.int .u8]),.sc (.int .i64)],.arr [.str,.str]]⟩,
 fun ((b,p):List Int×Int)=>Zbz b p⟩
theorem Zbz.ev:∀d,ZbT C0 (hnd (tab [(78,pick.S),(92,Zb5.S),(93,ZbB.S),(94,ZbA.S)])) Tryz.f47 .u Zbz.S d=Zbz.S.F d:=fun _=>by kernel_rfl
theorem Zbz.sound:Zak Tryz.prog C0 47 Zbz.S:=sE ZbY Zbz.ev (Zas ⟨pick.sound,Zb5.sound,ZbB.sound,ZbA.sound,trivial⟩) Tryz.func47
def Za3.S:Zbb:=⟨0,[.sc (.list [.int .u8])],[],[.list [.int .u8]],⟨[.list [.str,.str]],.full 0,[.arr [.str,.str]]⟩,
 fun (code_:List Int)=>Za3 code_⟩
theorem Za3.ev:∀d,ZbT C0 (hnd (tab [(47,Zbz.S),(48,ZdP.S)])) Tryz.f15 .u Za3.S d=Za3.S.F d:=fun _=>by kernel_rfl
theorem Za3.sound:Zak Tryz.prog C0 15 Za3.S:=sE ZbY Za3.ev (Zas ⟨Zbz.sound,ZdP.sound,trivial⟩) Tryz.func15
def ZbQ.S:Zbb:=⟨0,[.sc (.list [.str,.str]),.sc (.list [.str,.str])],[],[.list [.str,.str],.list [.str,.str]],⟨[.bool],.sc .bool,[]⟩,
 fun ((xs,ys):(List (Str×Str))×List (Str×Str))=>ZbQ xs ys⟩
theorem ZbQ.ev:∀d,ZbT C0 (hnd (tab [])) Tryz.f20 (.seq .u (.seq .u (.seq (.seq .u (.blk (.loopS ⟨[.list [.str,.str],.list [.str,.str],.int .i64],[(0,.sc (.list [.str,.str])),(1,.sc (.list [.str,.str])),(5,.sc (.int .i64))],[]⟩ (fun ((a,b,i):(List (Str×Str))×(List (Str×Str))×Int)=>((a.length:Int)-i).toNat+1) 0 ⟨[],[],[]⟩ .u))) .u))) ZbQ.S d=ZbQ.S.F d:=fun _=>by kernel_rfl
theorem ZbQ.sound:Zak Tryz.prog C0 20 ZbQ.S:=sE ZbY ZbQ.ev (Zas trivial) Tryz.func20
def FnTreeUnder.S:Zbb:=⟨0,[.sc (.list [.int .u8])],[],[.list [.int .u8]],⟨[.bool],.sc .bool,[]⟩,
 fun (code_:List Int)=>FnTreeUnder code_⟩
theorem FnTreeUnder.ev:∀d,ZbT C0 (hnd (tab [(15,Za3.S),(16,Zal.S),(17,Zag.S),(18,Zbo.S),(19,ZaR.S),(20,ZbQ.S)])) Tryz.f3 (.seq .u (.seq .u (.seq .u (.seq .u (.seq (.seq (.reg [.bool] [(23,.sc .bool)]) .u) (.seq (.seq .u (.blk (.loopS ⟨[.int .i64,.list [.str,.str]],[(3,.full 0),(5,.sc (.int .i64))],[.arr [.str,.str]]⟩ (fun ((i,t):Int×List (Str×Str))=>((t.length:Int)-i).toNat+1) 0 ⟨[],[],[]⟩ (.seq .u (.seq (.blk (.seq .u (.seq .u (.seq (.reg [.bool] [(61,.sc .bool)]) .u)))) .u))))) .u)))))) FnTreeUnder.S d=FnTreeUnder.S.F d:=fun _=>by kernel_rfl
def FnTreeNone.S:Zbb:=⟨0,[.sc (.list [.int .u8])],[],[.list [.int .u8]],⟨[.bool],.sc .bool,[]⟩,
 fun (code_:List Int)=>FnTreeNone code_⟩
theorem FnTreeNone.ev:∀d,ZbT C0 (hnd (tab [(15,Za3.S),(16,Zal.S),(17,Zag.S),(18,Zbo.S),(19,ZaR.S),(20,ZbQ.S),(21,Zbr.S)])) Tryz.f4 (.seq .u (.seq .u (.seq .u (.seq .u (.seq (.seq (.reg [.bool] [(23,.sc .bool)]) .u) (.seq .u (.seq .u (.seq (.reg [.bool] [(2,.sc .bool)]) .u)))))))) FnTreeNone.S d=FnTreeNone.S.F d:=fun _=>by kernel_rfl
end Ev
end

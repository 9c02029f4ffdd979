/- That the evaluator says of each function what it computes, and so that the program does. Conditions: none. -/
import Derived.Test.YtiphcamiidggcaaGreatDoorProg
import Derived.Sort.Grow
import Derived.KernelRfl
import Derived.Test.YtiphcamiidggcaaGreatDoorYGP0
set_option linter.unusedVariables false
set_option linter.unusedSimpArgs false
section
namespace Ev
open Go Go.Proofs Go.Shelf Go.RowKit Go.Lib Go.Sort
set_option maxRecDepth 100000
theorem ZsI (s:ByteArray) (w:World):Calls Tryz.prog 124 #[.string s] w fun e w'=>e=.returned (.bool false)∧∃q,w'=w.drewN q:=by
 go_enter Tryz.func124,Tryz.ntmps124
 go_wp2
 go_ret
 exact ⟨rfl,0,rfl⟩
theorem Zxo (s t:ByteArray) (w:World):Calls Tryz.prog 65 #[.string s,.string t] w fun e w'=>e=.returned (.int .i64 (Zzd s t))∧∃q,w'=w.drewN q:=by
 have h:=fun u W=>ZsI u W
 have e_4:∀args w,(callFunc 124 args).run Tryz.prog w=.ok (.enter 124 args) w:=enters_of Tryz.func124 (by kernel_rfl) rfl
 go_enter Tryz.func65,Tryz.ntmps65
 go_wp2_with (go_at_fn 124;refine (h _ _).mono ?_;rintro e w' ⟨rfl,q,rfl⟩)
 all_goals (go_ret;refine ⟨?_,_,rfl⟩)
 ·rename_i hh
  show Ending.returned (.int .i64 (-1))=_
  unfold Zzd
  rw [if_pos hh]
 ·rename_i h2
  have h1:Op.bytesLess s.toList t.toList=false:=by assumption
  show Ending.returned (.int .i64 1)=_
  unfold Zzd
  rw [if_neg (by rw [h1];simp),if_pos]
  cases k:Op.bytesLess t.toList s.toList with
  | true=>rfl
  | false=>rw [Zfw _ _ h1 k,beq_self_eq_true] at h2;cases h2
 ·rename_i h2
  have h1:Op.bytesLess s.toList t.toList=false:=by assumption
  show Ending.returned (.int .i64 0)=_
  unfold Zzd
  have he:s.toList=t.toList:=by
   cases q:(s.toList==t.toList) with
   | true=>exact eq_of_beq q
   | false=>rw [q] at h2;cases h2
  rw [he,Zeo,if_neg (by simp),if_neg (by simp)]
theorem Zvk (a b c d:ByteArray) (w:World):Calls Tryz.prog 64 #[.agg #[.string a,.string b],.agg #[.string c,.string d]] w fun e w'=>e=.returned (.int .i64 (Zzd a c))∧∃q os',w'=grow (w.drewN q) os':=by
 have h:=fun u v W=>Zxo u v W
 have e_3:∀args w,(callFunc 65 args).run Tryz.prog w=.ok (.enter 65 args) w:=enters_of Tryz.func65 (by kernel_rfl) rfl
 go_enter Tryz.func64,Tryz.ntmps64
 go_wp2_with (go_at_fn 65;refine (h _ _ _).mono ?_;rintro e w' ⟨rfl,q,rfl⟩)
 go_ret
 exact ⟨rfl,q,_,by rw [alloc_eq_grow,alloc_eq_grow,grow_grow];rfl⟩
end Ev
end
section
open Go Go.Proofs
set_option maxRecDepth 100000
namespace Ev
def Zzl:List (Nat×TI):=[
 (2,⟨.int .i64,1,8,[.int .i64 0],some [.int .i64]⟩),
 (3,⟨.int .i64,1,8,[.int .i64 0],some [.int .i64]⟩),
 (4,⟨.bool,1,1,[.bool false],some [.bool]⟩),
 (5,⟨.int .u8,1,1,[.int .u8 0],some [.int .u8]⟩),
 (6,⟨.int .u8,1,1,[.int .u8 0],some [.int .u8]⟩),
 (7,⟨.struct [(0,1,false),(1,1,false),(2,1,false),(3,1,false)],4,24,[.int .i64 0,.int .i64 0,.bool false,.int .u8 0],some [.int .i64,.int .i64,.bool,.int .u8]⟩),
 (8,⟨.struct [(0,1,false),(1,1,false),(2,1,false),(3,1,false)],4,24,[.int .i64 0,.int .i64 0,.bool false,.int .u8 0],some [.int .i64,.int .i64,.bool,.int .u8]⟩),
 (9,⟨.str,1,16,[.str []],some [.str]⟩),
 (10,⟨.str,1,16,[.str []],some [.str]⟩),
 (11,⟨.str,1,16,[.str []],some [.str]⟩),
 (12,⟨.int .u64,1,8,[.int .u64 0],some [.int .u64]⟩),
 (13,⟨.struct [(0,1,false),(1,1,false)],2,24,[.str [],.int .u64 0],some [.str,.int .u64]⟩),
 (14,⟨.struct [(0,1,false),(1,1,false)],2,24,[.str [],.int .u64 0],some [.str,.int .u64]⟩),
 (15,⟨.ptr 267,1,8,[.nilp],none⟩),
 (16,⟨.ptr 270,1,8,[.nilp],none⟩),
 (17,⟨.ptr 277,1,8,[.nilp],none⟩),
 (18,⟨.struct [(0,1,false)],1,8,[.nilp],none⟩),
 (19,⟨.struct [(0,1,false)],1,8,[.nilp],none⟩),
 (21,⟨.int .i32,1,4,[.int .i32 0],some [.int .i32]⟩),
 (22,⟨.slice 77,1,24,[.nilsl],none⟩),
 (24,⟨.slice 61,1,24,[.nilsl],none⟩),
 (31,⟨.slice 5,1,24,[.nilsl],some [.ints .u8]⟩),
 (36,⟨.slice 43,1,24,[.nilsl],none⟩),
 (40,⟨.struct [(0,1,false),(1,1,false),(2,1,false),(3,1,false),(4,1,false),(5,1,false)],6,48,[.int .i64 0,.int .i64 0,.int .i64 0,.int .i64 0,.int .i64 0,.int .i64 0],some [.int .i64,.int .i64,.int .i64,.int .i64,.int .i64,.int .i64]⟩),
 (41,⟨.struct [(0,1,false),(1,1,false),(2,1,false),(3,1,false),(4,1,false),(5,1,false)],6,48,[.int .i64 0,.int .i64 0,.int .i64 0,.int .i64 0,.int .i64 0,.int .i64 0],some [.int .i64,.int .i64,.int .i64,.int .i64,.int .i64,.int .i64]⟩),
 (42,⟨.struct [(0,1,false),(1,6,true),(7,1,false)],8,80,[.str [],.int .i64 0,.int .i64 0,.int .i64 0,.int .i64 0,.int .i64 0,.int .i64 0,.str []],some [.str,.int .i64,.int .i64,.int .i64,.int .i64,.int .i64,.int .i64,.str]⟩),
 (43,⟨.struct [(0,1,false),(1,6,true),(7,1,false)],8,80,[.str [],.int .i64 0,.int .i64 0,.int .i64 0,.int .i64 0,.int .i64 0,.int .i64 0,.str []],some [.str,.int .i64,.int .i64,.int .i64,.int .i64,.int .i64,.int .i64,.str]⟩),
 (52,⟨.slice 9,1,24,[.nilsl],none⟩),
 (60,⟨.struct [(0,1,false),(1,1,false)],2,32,[.str [],.str []],some [.str,.str]⟩),
 (61,⟨.struct [(0,1,false),(1,1,false)],2,32,[.str [],.str []],some [.str,.str]⟩),
 (67,⟨.struct [(0,1,false),(1,1,false)],2,32,[.str [],.str []],some [.str,.str]⟩),
 (68,⟨.struct [(0,1,false),(1,1,false)],2,32,[.str [],.str []],some [.str,.str]⟩),
 (77,⟨.struct [(0,1,false),(1,1,false)],2,32,[.str [],.str []],some [.str,.str]⟩),
 (87,⟨.ptr 130,1,8,[.nilp],none⟩),
 (117,⟨.slice 3,1,24,[.nilsl],some [.ints .i64]⟩),
 (128,⟨.int .u64,1,8,[.int .u64 0],some [.int .u64]⟩),
 (129,⟨.struct [(0,1,false),(1,1,false)],2,32,[.nilsl,.int .i64 0],some [.ints .u8,.int .i64]⟩),
 (130,⟨.struct [(0,1,false),(1,1,false)],2,32,[.nilsl,.int .i64 0],some [.ints .u8,.int .i64]⟩),
 (139,⟨.ptr 141,1,8,[.nilp],none⟩),
 (140,⟨.struct [(0,1,false),(1,1,false)],2,32,[.nilp,.nilsl],none⟩),
 (141,⟨.struct [(0,1,false),(1,1,false)],2,32,[.nilp,.nilsl],none⟩),
 (156,⟨.int .i64,1,8,[.int .i64 0],some [.int .i64]⟩),
 (163,⟨.int .u32,1,4,[.int .u32 0],some [.int .u32]⟩),
 (165,⟨.int .u64,1,8,[.int .u64 0],some [.int .u64]⟩),
 (169,⟨.ptr 171,1,8,[.nilp],none⟩),
 (170,⟨.struct [(0,1,false),(1,1,false),(2,1,false)],3,32,[.str [],.int .i64 0,.bool false],some [.str,.int .i64,.bool]⟩),
 (171,⟨.struct [(0,1,false),(1,1,false),(2,1,false)],3,32,[.str [],.int .i64 0,.bool false],some [.str,.int .i64,.bool]⟩),
 (177,⟨.ptr 5,1,8,[.nilp],none⟩),
 (182,⟨.int .u64,1,8,[.int .u64 0],some [.int .u64]⟩),
 (186,⟨.ptr 3,1,8,[.nilp],none⟩),
 (189,⟨.map 223 3,1,8,[.undef],none⟩),
 (190,⟨.map 223 3,1,8,[.undef],none⟩),
 (193,⟨.struct [(0,1,false),(1,1,false)],2,48,[.nilsl,.nilsl],some [.ints .i64,.ints .i64]⟩),
 (194,⟨.struct [(0,1,false),(1,1,false)],2,48,[.nilsl,.nilsl],some [.ints .i64,.ints .i64]⟩),
 (196,⟨.struct [(0,1,false),(1,1,false),(2,1,false)],3,24,[.int .i64 0,.int .i64 0,.int .i64 0],some [.int .i64,.int .i64,.int .i64]⟩),
 (197,⟨.struct [(0,1,false),(1,1,false),(2,1,false)],3,24,[.int .i64 0,.int .i64 0,.int .i64 0],some [.int .i64,.int .i64,.int .i64]⟩),
 (200,⟨.ptr 202,1,8,[.nilp],none⟩),
 (201,⟨.struct [(0,1,false),(1,1,false)],2,32,[.nilsl,.int .i64 0],some [.ints .u8,.int .i64]⟩),
 (202,⟨.struct [(0,1,false),(1,1,false)],2,32,[.nilsl,.int .i64 0],some [.ints .u8,.int .i64]⟩),
 (205,⟨.slice 197,1,24,[.nilsl],none⟩),
 (219,⟨.ptr 182,1,8,[.nilp],none⟩),
 (222,⟨.struct [(0,1,false),(1,1,false)],2,16,[.int .i64 0,.int .i64 0],some [.int .i64,.int .i64]⟩),
 (223,⟨.struct [(0,1,false),(1,1,false)],2,16,[.int .i64 0,.int .i64 0],some [.int .i64,.int .i64]⟩),
 (232,⟨.ptr 234,1,8,[.nilp],none⟩),
 (233,⟨.struct [(0,1,false),(1,1,false),(2,1,false)],3,32,[.str [],.int .i64 0,.bool false],some [.str,.int .i64,.bool]⟩),
 (234,⟨.struct [(0,1,false),(1,1,false),(2,1,false)],3,32,[.str [],.int .i64 0,.bool false],some [.str,.int .i64,.bool]⟩),
 (237,⟨.ptr 239,1,8,[.nilp],none⟩),
 (238,⟨.struct [(0,1,false),(1,1,false),(2,1,false)],3,40,[.nilsl,.int .i64 0,.int .i64 0],some [.ints .u8,.int .i64,.int .i64]⟩),
 (239,⟨.struct [(0,1,false),(1,1,false),(2,1,false)],3,40,[.nilsl,.int .i64 0,.int .i64 0],some [.ints .u8,.int .i64,.int .i64]⟩),
 (243,⟨.slice 245,1,24,[.nilsl],none⟩),
 (244,⟨.struct [(0,1,false),(1,1,false)],2,32,[.int .i64 0,.nilsl],some [.int .i64,.ints .i64]⟩),
 (245,⟨.struct [(0,1,false),(1,1,false)],2,32,[.int .i64 0,.nilsl],some [.int .i64,.ints .i64]⟩),
 (251,⟨.struct [(0,1,false),(1,1,false)],2,2,[.int .u8 0,.int .u8 0],some [.int .u8,.int .u8]⟩),
 (252,⟨.struct [(0,1,false),(1,1,false)],2,2,[.int .u8 0,.int .u8 0],some [.int .u8,.int .u8]⟩),
 (261,⟨.slice 263,1,24,[.nilsl],none⟩),
 (262,⟨.struct [(0,1,false),(1,1,false),(2,1,false)],3,40,[.int .i64 0,.int .i64 0,.nilsl],some [.int .i64,.int .i64,.ints .i64]⟩),
 (263,⟨.struct [(0,1,false),(1,1,false),(2,1,false)],3,40,[.int .i64 0,.int .i64 0,.nilsl],some [.int .i64,.int .i64,.ints .i64]⟩),
 (266,⟨.struct [(0,1,false),(1,1,false),(2,1,false),(3,1,false)],4,40,[.nilp,.nilp,.nilp,.str []],none⟩),
 (267,⟨.struct [(0,1,false),(1,1,false),(2,1,false),(3,1,false)],4,40,[.nilp,.nilp,.nilp,.str []],none⟩),
 (271,⟨.int .u8,1,1,[.int .u8 0],some [.int .u8]⟩),
 (272,⟨.int .u8,1,1,[.int .u8 0],some [.int .u8]⟩),
 (274,⟨.int .i32,1,4,[.int .i32 0],some [.int .i32]⟩),
 (275,⟨.int .i32,1,4,[.int .i32 0],some [.int .i32]⟩),
 (276,⟨.struct [(0,1,false),(1,1,false),(2,1,false),(3,1,false),(4,1,false),(5,1,false),(6,1,false),(7,1,false),(8,1,false),(9,1,false),(10,1,false)],11,48,[.int .u64 0,.int .u64 0,.int .u32 0,.int .u8 0,.int .u8 0,.int .u8 0,.int .u8 0,.undef,.nilp,.int .i32 0,.int .i32 0],none⟩),
 (277,⟨.struct [(0,1,false),(1,1,false),(2,1,false),(3,1,false),(4,1,false),(5,1,false),(6,1,false),(7,1,false),(8,1,false),(9,1,false),(10,1,false)],11,48,[.int .u64 0,.int .u64 0,.int .u32 0,.int .u8 0,.int .u8 0,.int .u8 0,.int .u8 0,.undef,.nilp,.int .i32 0,.int .i32 0],none⟩)]
theorem ZxN:tisC Tryz.prog Zzl=true:=by kernel_rfl
theorem nm:Tryz.prog.follows .mixedOrders=true:=by kernel_rfl
def eqTab:List (Nat×FT):=[(43,[.str,.int .i64,.int .i64,.int .i64,.int .i64,.int .i64,.int .i64,.str]),(61,[.str,.str]),(223,[.int .i64,.int .i64])]
theorem ZyI:eqsC Tryz.prog eqTab=true:=by kernel_rfl
theorem ZuO:Zwc Tryz.prog Zzl=true:=by kernel_rfl
def Zw0:List (Nat×List AV):=[(0,[.ro [.int .i64] [16,17,18,0,8,7,9,6,10,5,11,4,12,3,13,2,14,1,15]])]
def C0:Ctx:=⟨Zvr Zzl,Zrs Zw0,eqOf eqTab⟩
theorem Za8:Zhe Tryz.prog C0:=Zzm rfl ZxN nm rfl ZyI ZuO
end Ev
end
section
open Go Go.Proofs
set_option maxRecDepth 100000
namespace Ev
set_option maxHeartbeats 1000000
def ZbC.S:ZaQ:=⟨0,[.sc (.int .i64),.sc (.int .i64),.sc (.int .i64)],[],[.int .i64,.int .i64,.int .i64],⟨[.bool],.sc .bool,[]⟩,
 fun ((n,low,high):Int×Int×Int)=>ZbC n low high⟩
theorem ZbC.ev:∀d,Za7 C0 (hnd (tab [])) Tryz.f146 (.seq .u (.seq (.reg [.bool] [(6,.sc .bool)]) .u)) ZbC.S d=ZbC.S.F d:=fun _=>by kernel_rfl
theorem ZbC.sound:Zah Tryz.prog C0 146 ZbC.S:=sE Za8 ZbC.ev (Zai trivial) Tryz.func146
def Zdc.S:ZaQ:=⟨0,[.sc .str],[],[.str],⟨[.bool],.sc .bool,[]⟩,
 fun (s:Str)=>Zdc s⟩
theorem Zdc.ev:∀d,Za7 C0 (hnd (tab [(146,ZbC.S)])) Tryz.f140 (.seq .u (.seq (.seq .u (.blk (.loopS ⟨[.str,.int .i64,.int .i64],[(0,.sc .str),(6,.sc (.int .i64)),(7,.sc (.int .i64))],[]⟩ (fun ((s1,t,t1):Str×Int×Int)=>(t-t1).toNat+1) 0 ⟨[.str],[(0,.sc .str)],[]⟩ (.seq .u (.seq .u (.seq (.blk (.seq .u (.seq .u (.seq (.reg [.bool] [(38,.sc .bool)]) .u)))) .u)))))) (.seq (.reg [.bool] [(2,.sc .bool)]) .u))) Zdc.S d=Zdc.S.F d:=fun _=>by kernel_rfl
theorem Zdc.sound:Zah Tryz.prog C0 140 Zdc.S:=sE Za8 Zdc.ev (Zai ⟨ZbC.sound,trivial⟩) Tryz.func140
def Zhp.S:ZaQ:=⟨0,[.sc (.int .i64),.sc (.int .i64),.sc (.int .i64)],[],[.int .i64,.int .i64,.int .i64],⟨[.bool],.sc .bool,[]⟩,
 fun ((n,low,high):Int×Int×Int)=>Zhp n low high⟩
theorem Zhp.ev:∀d,Za7 C0 (hnd (tab [])) Tryz.f116 (.seq .u (.seq (.reg [.bool] [(6,.sc .bool)]) .u)) Zhp.S d=Zhp.S.F d:=fun _=>by kernel_rfl
theorem Zhp.sound:Zah Tryz.prog C0 116 Zhp.S:=sE Za8 Zhp.ev (Zai trivial) Tryz.func116
def ZeP.S:ZaQ:=⟨0,[.sc .str,.sc (.int .u8),.sc (.int .i64)],[],[.str,.int .u8,.int .i64],⟨[.list [.str]],.full 0,[.arr [.str]]⟩,
 fun ((s,b,most):Str×Int×Int)=>ZeP s b most⟩
theorem ZeP.ev:∀d,Za7 C0 (hnd (tab [])) Tryz.f141 (.seq .u (.seq .u (.seq .u (.seq (.seq .u (.blk (.loop ⟨[.str,.int .u8,.int .i64,.int .i64,.int .i64,.list [.str]],[(0,.sc .str),(1,.sc (.int .u8)),(2,.sc (.int .i64)),(7,.full 0),(8,.sc (.int .i64)),(9,.sc (.int .i64))],[.arr [.str]]⟩ (fun ((s1,b1,most1,from_,i,out):Str×Int×Int×Int×Int×List Str)=>((s1.length:Int)-i).toNat+1) 0 ⟨[.str,.int .i64,.list [.str]],[(0,.sc .str),(7,.full 0),(8,.sc (.int .i64))],[.arr [.str]]⟩ (.seq (.seq (.reg [.bool] [(20,.sc .bool)]) .u) .u)))) .u)))) ZeP.S d=ZeP.S.F d:=fun _=>by kernel_rfl
theorem ZeP.sound:Zah Tryz.prog C0 141 ZeP.S:=sE Za8 ZeP.ev (Zai trivial) Tryz.func141
def ZfV.S:ZaQ:=⟨0,[.agg [.sc .str,.sc .str],.sc (.int .i64)],[],[.str,.str,.int .i64],⟨[.int .i64],.sc (.int .i64),[]⟩,
 fun ((path,text,n):Str×Str×Int)=>ZfV path text n⟩
theorem ZfV.ev:∀d,Za7 C0 (hnd (tab [])) Tryz.f57 .u ZfV.S d=ZfV.S.F d:=fun _=>by kernel_rfl
theorem ZfV.sound:Zah Tryz.prog C0 57 ZfV.S:=sE Za8 ZfV.ev (Zai trivial) Tryz.func57
def Zb8.S:ZaQ:=⟨0,[.sc (.list [.str,.str]),.sc (.int .i64)],[],[.list [.str,.str],.int .i64],⟨[.int .i64],.sc (.int .i64),[]⟩,
 fun ((xs,n):(List (Str×Str))×Int)=>Zb8 xs n⟩
theorem Zb8.ev:∀d,Za7 C0 (hnd (tab [(57,ZfV.S)])) Tryz.f15 (.seq .u (.seq .u (.seq .u (.seq (.seq .u (.blk (.loopS ⟨[.list [.str,.str],.int .i64,.int .i64],[(0,.sc (.list [.str,.str])),(1,.sc (.int .i64)),(5,.sc (.int .i64))],[]⟩ (fun ((a,left,i):(List (Str×Str))×Int×Int)=>((a.length:Int)-i).toNat+1) 0 ⟨[.int .i64],[(1,.sc (.int .i64))],[]⟩ .u))) .u)))) Zb8.S d=Zb8.S.F d:=fun _=>by kernel_rfl
theorem Zb8.sound:Zah Tryz.prog C0 15 Zb8.S:=sE Za8 Zb8.ev (Zai ⟨ZfV.sound,trivial⟩) Tryz.func15
def Zgu.S:ZaQ:=⟨0,[.agg [.sc .str,.sc .str]],[],[.str,.str],⟨[.str,.str],.agg [.sc .str,.sc .str],[]⟩,
 fun ((path,text):Str×Str)=>Zgu path text⟩
theorem Zgu.ev:∀d,Za7 C0 (hnd (tab [])) Tryz.f60 .u Zgu.S d=Zgu.S.F d:=fun _=>by kernel_rfl
theorem Zgu.sound:Zah Tryz.prog C0 60 Zgu.S:=sE Za8 Zgu.ev (Zai trivial) Tryz.func60
def ZbW.S:ZaQ:=⟨0,[.sc (.list [.str,.str])],[],[.list [.str,.str]],⟨[.list [.str,.str]],.full 0,[.arr [.str,.str]]⟩,
 fun (xs:List (Str×Str))=>ZbW xs⟩
theorem ZbW.ev:∀d,Za7 C0 (hnd (tab [(60,Zgu.S)])) Tryz.f17 (.seq .u (.seq .u (.seq (.seq .u (.blk (.loop ⟨[.list [.str,.str],.int .i64,.list [.str,.str]],[(0,.sc (.list [.str,.str])),(3,.full 0),(4,.sc (.int .i64))],[.arr [.str,.str]]⟩ (fun ((a,i,out):(List (Str×Str))×Int×List (Str×Str))=>((a.length:Int)-i).toNat+1) 0 ⟨[.list [.str,.str]],[(3,.full 0)],[.arr [.str,.str]]⟩ .u))) .u))) ZbW.S d=ZbW.S.F d:=fun _=>by kernel_rfl
theorem ZbW.sound:Zah Tryz.prog C0 17 ZbW.S:=sE Za8 ZbW.ev (Zai ⟨Zgu.sound,trivial⟩) Tryz.func17
def Zf9.S:ZaQ:=⟨0,[.agg [.sc .str,.sc .str],.agg [.sc .str,.sc .str]],[],[.str,.str,.str,.str],⟨[.bool],.sc .bool,[]⟩,
 fun ((p,t,q,u):Str×Str×Str×Str)=>Zf9 p t q u⟩
theorem Zf9.ev:∀d,Za7 C0 (hnd (tab [])) Tryz.f66 .u Zf9.S d=Zf9.S.F d:=fun _=>by kernel_rfl
theorem Zf9.sound:Zah Tryz.prog C0 66 Zf9.S:=sE Za8 Zf9.ev (Zai trivial) Tryz.func66
def ZbZ.S:ZaQ:=⟨0,[.sc (.list [.str,.str]),.sc (.list [.str,.str])],[],[.list [.str,.str],.list [.str,.str]],⟨[.bool],.sc .bool,[]⟩,
 fun ((xs,ys):(List (Str×Str))×List (Str×Str))=>ZbZ xs ys⟩
theorem ZbZ.ev:∀d,Za7 C0 (hnd (tab [(66,Zf9.S)])) Tryz.f19 (.seq .u (.seq .u (.seq (.seq .u (.blk (.loopS ⟨[.list [.str,.str],.list [.str,.str],.int .i64],[(0,.sc (.list [.str,.str])),(1,.sc (.list [.str,.str])),(5,.sc (.int .i64))],[]⟩ (fun ((a,b,i):(List (Str×Str))×(List (Str×Str))×Int)=>((a.length:Int)-i).toNat+1) 0 ⟨[],[],[]⟩ .u))) .u))) ZbZ.S d=ZbZ.S.F d:=fun _=>by kernel_rfl
theorem ZbZ.sound:Zah Tryz.prog C0 19 ZbZ.S:=sE Za8 ZbZ.ev (Zai ⟨Zf9.sound,trivial⟩) Tryz.func19
def Zap.S:ZaQ:=⟨0,[.sc .str],[],[.str],⟨[.bool],.sc .bool,[]⟩,
 fun (s:Str)=>Zap s⟩
theorem Zap.ev:∀d,Za7 C0 (hnd (tab [(116,Zhp.S),(141,ZeP.S)])) Tryz.f94 (.seq .u (.seq .u (.seq (.seq .u (.blk (.loopS ⟨[.int .i64,.list [.str]],[(3,.full 0),(4,.sc (.int .i64))],[.arr [.str]]⟩ (fun ((i,list):Int×List Str)=>((list.length:Int)-i).toNat+1) 0 ⟨[.list [.str]],[(3,.full 0)],[.arr [.str]]⟩ (.seq .u (.seq (.blk (.seq .u (.seq (.seq .u (.blk (.loopS ⟨[.int .i64,.str,.int .i64,.list [.str]],[(3,.full 0),(4,.sc (.int .i64)),(5,.sc .str),(6,.sc (.int .i64))],[.arr [.str]]⟩ (fun ((i1,w,k,list1):Int×Str×Int×List Str)=>((w.length:Int)-k).toNat+1) 2 ⟨[.int .i64,.str,.list [.str]],[(3,.full 0),(4,.sc (.int .i64)),(5,.sc .str)],[.arr [.str]]⟩ (.seq .u (.seq (.blk (.seq (.reg [.bool] [(68,.sc .bool)]) .u)) .u))))) (.seq (.reg [.bool] [(80,.sc .bool)]) .u)))) .u))))) .u))) Zap.S d=Zap.S.F d:=fun _=>by kernel_rfl
theorem Zap.sound:Zah Tryz.prog C0 94 Zap.S:=sE Za8 Zap.ev (Zai ⟨Zhp.sound,ZeP.sound,trivial⟩) Tryz.func94
def Zca.S:ZaQ:=⟨0,[.sc .str,.sc .str],[],[.str,.str],⟨[.bool],.sc .bool,[]⟩,
 fun ((a,b):Str×Str)=>Zca a b⟩
theorem Zca.ev:∀d,Za7 C0 (hnd (tab [])) Tryz.f107 (.seq .u (.seq (.reg [.bool] [(4,.sc .bool)]) .u)) Zca.S d=Zca.S.F d:=fun _=>by kernel_rfl
theorem Zca.sound:Zah Tryz.prog C0 107 Zca.S:=sE Za8 Zca.ev (Zai trivial) Tryz.func107
def Zao.S:ZaQ:=⟨0,[.sc (.list [.str,.str])],[],[.list [.str,.str]],⟨[.bool],.sc .bool,[]⟩,
 fun (xs:List (Str×Str))=>Zao xs⟩
theorem Zao.ev:∀d,Za7 C0 (hnd (tab [(94,Zap.S),(107,Zca.S)])) Tryz.f49 (.seq .u (.seq (.seq .u (.blk (.loopS ⟨[.list [.str,.str],.int .i64],[(0,.sc (.list [.str,.str])),(3,.sc (.int .i64))],[]⟩ (fun ((t,i):(List (Str×Str))×Int)=>((t.length:Int)-i).toNat+1) 0 ⟨[.list [.str,.str]],[(0,.sc (.list [.str,.str]))],[]⟩ (.seq .u (.seq (.blk (.seq (.seq (.reg [.bool] [(44,.sc .bool)]) .u) (.seq .u (.blk (.loopS ⟨[.list [.str,.str],.int .i64,.int .i64],[(0,.sc (.list [.str,.str])),(3,.sc (.int .i64)),(4,.sc (.int .i64))],[]⟩ (fun ((t1,i1,k):(List (Str×Str))×Int×Int)=>((t1.length:Int)-k).toNat+1) 2 ⟨[.list [.str,.str],.int .i64],[(0,.sc (.list [.str,.str])),(3,.sc (.int .i64))],[]⟩ .u))))) .u))))) .u)) Zao.S d=Zao.S.F d:=fun _=>by kernel_rfl
theorem Zao.sound:Zah Tryz.prog C0 49 Zao.S:=sE Za8 Zao.ev (Zai ⟨Zap.sound,Zca.sound,trivial⟩) Tryz.func49
def ZcH.S:ZaQ:=⟨0,[.sc .str,.sc .str],[],[.str,.str],⟨[.bool],.sc .bool,[]⟩,
 fun ((s,p):Str×Str)=>ZcH s p⟩
theorem ZcH.ev:∀d,Za7 C0 (hnd (tab [])) Tryz.f148 (.seq .u (.seq (.reg [.bool] [(4,.sc .bool)]) .u)) ZcH.S d=ZcH.S.F d:=fun _=>by kernel_rfl
theorem ZcH.sound:Zah Tryz.prog C0 148 ZcH.S:=sE Za8 ZcH.ev (Zai trivial) Tryz.func148
def ZbU.S:ZaQ:=⟨0,[.sc .str,.sc .str],[],[.str,.str],⟨[.bool],.sc .bool,[]⟩,
 fun ((s,p):Str×Str)=>ZbU s p⟩
theorem ZbU.ev:∀d,Za7 C0 (hnd (tab [(148,ZcH.S)])) Tryz.f105 .u ZbU.S d=ZbU.S.F d:=fun _=>by kernel_rfl
theorem ZbU.sound:Zah Tryz.prog C0 105 ZbU.S:=sE Za8 ZbU.ev (Zai ⟨ZcH.sound,trivial⟩) Tryz.func105
def Zcq.S:ZaQ:=Zjr
theorem Zcq.sound:Zah Tryz.prog C0 275 Zcq.S:=ZmC Tryz.func275 (by kernel_rfl) (by kernel_rfl) (by kernel_rfl) (by kernel_rfl)
def ZdN.S:ZaQ:=ZjF
theorem ZdN.sound:Zah Tryz.prog C0 231 ZdN.S:=Zm5 Tryz.func231 (by kernel_rfl) (by kernel_rfl) (by kernel_rfl) (by kernel_rfl)
def ZcG.S:ZaQ:=⟨0,[.sc .str,.sc (.int .u8)],[],[.str,.int .u8],⟨[.int .i64],.sc (.int .i64),[]⟩,
 fun ((s,c):Str×Int)=>ZcG s c⟩
theorem ZcG.ev:∀d,Za7 C0 (hnd (tab [(275,Zcq.S)])) Tryz.f252 .u ZcG.S d=ZcG.S.F d:=fun _=>by kernel_rfl
theorem ZcG.sound:Zah Tryz.prog C0 252 ZcG.S:=sE Za8 ZcG.ev (Zai ⟨Zcq.sound,trivial⟩) Tryz.func252
def ZeQ.S:ZaQ:=⟨0,[.sc .str,.cstr [47]],[],[.str],⟨[.int .i64],.sc (.int .i64),[]⟩,
 fun (s:Str)=>ZeQ s⟩
theorem ZeQ.ev:∀d,Za7 C0 (hnd (tab [(252,ZcG.S)])) Tryz.f232 (.seq .u (.seq .u (.seq (.blk (.seq (.reg [.bool] [(16,.sc .bool)]) .u)) .u))) ZeQ.S d=ZeQ.S.F d:=fun _=>by kernel_rfl
theorem ZeQ.sound:Zah Tryz.prog C0 232 ZeQ.S:=sE Za8 ZeQ.ev (Zai ⟨ZcG.sound,trivial⟩) Tryz.func232
def Zf6.S:ZaQ:=⟨0,[.sc .str,.cstr [47]],[],[.str],⟨[.int .i64],.sc (.int .i64),[]⟩,
 fun (s:Str)=>Zf6 s⟩
theorem Zf6.ev:∀d,Za7 C0 (hnd (tab [(232,ZeQ.S)])) Tryz.f215 .u Zf6.S d=Zf6.S.F d:=fun _=>by kernel_rfl
theorem Zf6.sound:Zah Tryz.prog C0 215 Zf6.S:=sE Za8 Zf6.ev (Zai ⟨ZeQ.sound,trivial⟩) Tryz.func215
def ZgL.S:ZaQ:=⟨0,[.sc .str,.cstr [47]],[],[.str],⟨[.int .i64],.sc (.int .i64),[]⟩,
 fun (s:Str)=>ZgL s⟩
theorem ZgL.ev:∀d,Za7 C0 (hnd (tab [(231,ZdN.S)])) Tryz.f214 .u ZgL.S d=ZgL.S.F d:=fun _=>by kernel_rfl
theorem ZgL.sound:Zah Tryz.prog C0 214 ZgL.S:=sE Za8 ZgL.ev (Zai ⟨ZdN.sound,trivial⟩) Tryz.func214
def Zbm.S:ZaQ:=⟨0,[.sc .str,.cstr [47],.cint .i64 0,.cint .i64 (-1)],[],[.str],⟨[.list [.str]],.sc (.list [.str]),[]⟩,
 fun (s:Str)=>Zbm s⟩
theorem Zbm.ev:∀d,Za7 C0 (hnd (tab [(214,ZgL.S),(215,Zf6.S)])) Tryz.f182 (.seq .u (.seq .u (.seq .u (.join ⟨[.str,.int .i64],[(0,.sc .str),(1,.cstr [47]),(2,.cint .i64 0),(3,.sc (.int .i64))],[]⟩ .u (.seq .u (.seq .u (.seq .u (.seq .u (.seq (.blk (.loop ⟨[.str,.int .i64,.int .i64,.list [.str]],[(0,.sc .str),(1,.cstr [47]),(2,.cint .i64 0),(3,.sc (.int .i64)),(9,.full 0),(10,.sc (.int .i64))],[.arr [.str]]⟩ (fun ((s2,n1,i,a):Str×Int×Int×List Str)=>(n1-i).toNat+1) 0 ⟨[.str,.int .i64,.list [.str]],[(0,.sc .str),(9,.full 0),(10,.sc (.int .i64))],[.arr [.str]]⟩ .u)) .u))))))))) Zbm.S d=Zbm.S.F d:=fun _=>by kernel_rfl
theorem Zbm.sound:Zah Tryz.prog C0 182 Zbm.S:=sE Za8 Zbm.ev (Zai ⟨ZgL.sound,Zf6.sound,trivial⟩) Tryz.func182
def ZfX.S:ZaQ:=⟨0,[.sc .str,.cstr [47]],[],[.str],⟨[.list [.str]],.sc (.list [.str]),[]⟩,
 fun (s:Str)=>ZfX s⟩
theorem ZfX.ev:∀d,Za7 C0 (hnd (tab [(182,Zbm.S)])) Tryz.f139 .u ZfX.S d=ZfX.S.F d:=fun _=>by kernel_rfl
theorem ZfX.sound:Zah Tryz.prog C0 139 ZfX.S:=sE Za8 ZfX.ev (Zai ⟨Zbm.sound,trivial⟩) Tryz.func139
def ZaG.S:ZaQ:=⟨0,[.sc .str],[],[.str],⟨[.bool],.sc .bool,[]⟩,
 fun (s:Str)=>ZaG s⟩
theorem ZaG.ev:∀d,Za7 C0 (hnd (tab [(139,ZfX.S),(140,Zdc.S)])) Tryz.f91 (.seq .u (.seq .u (.seq (.seq .u (.blk (.loopS ⟨[.list [.str],.list [.str],.int .i64,.int .i64],[(3,.sc (.list [.str])),(8,.sc (.list [.str])),(9,.sc (.int .i64)),(10,.sc (.int .i64))],[]⟩ (fun ((parts,t,t1,t2):List Str×List Str×Int×Int)=>(t1-t2).toNat+1) 0 ⟨[.list [.str]],[(3,.sc (.list [.str]))],[]⟩ .u))) .u))) ZaG.S d=ZaG.S.F d:=fun _=>by kernel_rfl
theorem ZaG.sound:Zah Tryz.prog C0 91 ZaG.S:=sE Za8 ZaG.ev (Zai ⟨ZfX.sound,Zdc.sound,trivial⟩) Tryz.func91
def Zc0.S:ZaQ:=⟨0,[.sc (.list [.str])],[],[.list [.str]],⟨[.bool],.sc .bool,[]⟩,
 fun (xs:List Str)=>Zc0 xs⟩
theorem Zc0.ev:∀d,Za7 C0 (hnd (tab [(105,ZbU.S)])) Tryz.f92 (.seq .u (.seq (.seq .u (.blk (.loopS ⟨[.list [.str],.list [.str],.int .i64,.int .i64],[(0,.sc (.list [.str])),(7,.sc (.list [.str])),(8,.sc (.int .i64)),(9,.sc (.int .i64))],[]⟩ (fun ((names,t,t1,t2):List Str×List Str×Int×Int)=>(t1-t2).toNat+1) 0 ⟨[],[],[]⟩ (.seq .u (.seq .u (.seq (.blk (.seq .u (.seq .u (.blk (.loopS ⟨[.list [.str],.str,.list [.str],.int .i64,.int .i64,.list [.str],.int .i64,.int .i64],[(0,.sc (.list [.str])),(4,.sc .str),(7,.sc (.list [.str])),(8,.sc (.int .i64)),(9,.sc (.int .i64)),(16,.sc (.list [.str])),(17,.sc (.int .i64)),(18,.sc (.int .i64))],[]⟩ (fun ((names1,a,t3,t4,t5,t6,t7,t8):List Str×Str×List Str×Int×Int×List Str×Int×Int)=>(t7-t8).toNat+1) 2 ⟨[.list [.str],.list [.str],.int .i64,.int .i64],[(0,.sc (.list [.str])),(7,.sc (.list [.str])),(8,.sc (.int .i64)),(9,.sc (.int .i64))],[]⟩ (.seq .u (.seq .u (.seq (.blk (.seq .u (.seq (.reg [.bool] [(36,.sc .bool)]) .u))) .u)))))))) .u)))))) .u)) Zc0.S d=Zc0.S.F d:=fun _=>by kernel_rfl
theorem Zc0.sound:Zah Tryz.prog C0 92 Zc0.S:=sE Za8 Zc0.ev (Zai ⟨ZbU.sound,trivial⟩) Tryz.func92
def Zau.S:ZaQ:=⟨0,[.sc (.list [.str,.str])],[],[.list [.str,.str]],⟨[.bool],.sc .bool,[]⟩,
 fun (xs:List (Str×Str))=>Zau xs⟩
theorem Zau.ev:∀d,Za7 C0 (hnd (tab [(91,ZaG.S),(92,Zc0.S)])) Tryz.f47 (.seq .u (.seq .u (.seq (.seq .u (.blk (.loopS ⟨[.list [.str,.str],.list [.str,.str],.int .i64,.int .i64,.list [.str]],[(0,.sc (.list [.str,.str])),(3,.full 0),(7,.sc (.list [.str,.str])),(8,.sc (.int .i64)),(9,.sc (.int .i64))],[.arr [.str]]⟩ (fun ((t,t1,t2,t3,paths):(List (Str×Str))×(List (Str×Str))×Int×Int×List Str)=>(t2-t3).toNat+1) 0 ⟨[.list [.str,.str],.list [.str]],[(0,.sc (.list [.str,.str])),(3,.full 0)],[.arr [.str]]⟩ (.seq .u (.seq .u (.seq (.blk (.seq .u (.seq (.seq (.reg [.bool] [(38,.sc .bool)]) .u) .u))) .u)))))) (.seq (.reg [.bool] [(2,.sc .bool)]) .u)))) Zau.S d=Zau.S.F d:=fun _=>by kernel_rfl
theorem Zau.sound:Zah Tryz.prog C0 47 Zau.S:=sE Za8 Zau.ev (Zai ⟨ZaG.sound,Zc0.sound,trivial⟩) Tryz.func47
def Zel.S:ZaQ:=⟨0,[.agg [.sc (.int .i64),.sc (.int .i64)]],[],[.int .i64,.int .i64],⟨[.bool],.sc .bool,[]⟩,
 fun ((num,bits):Int×Int)=>Zel num bits⟩
theorem Zel.ev:∀d,Za7 C0 (hnd (tab [(146,ZbC.S)])) Tryz.f250 (.seq .u (.seq (.reg [.bool] [(2,.sc .bool)]) .u)) Zel.S d=Zel.S.F d:=fun _=>by kernel_rfl
theorem Zel.sound:Zah Tryz.prog C0 250 Zel.S:=sE Za8 Zel.ev (Zai ⟨ZbC.sound,trivial⟩) Tryz.func250
def ZeX.S:ZaQ:=⟨1,[.ptr 0 0,.sc (.int .i64),.sc (.int .i64)],[.box [.full 1,.sc (.int .i64)],.arr [.int .u8]],[.int .i64,.int .i64,.int .i64,.list [.int .u8]],⟨[.int .i64,.list [.int .u8]],.tup [],[.box [.full 1,.sc (.int .i64)],.arr [.int .u8]]⟩,
 fun ((num,bits,many,b):Int×Int×Int×List Int)=>ZeX num bits many b⟩
theorem ZeX.ev:∀d,Za7 C0 (hnd (tab [])) Tryz.f202 (.seq .u (.blk (.loop ⟨[.int .i64,.int .i64,.int .i64,.int .i64,.list [.int .u8]],[(0,.ptr 0 0),(1,.sc (.int .i64)),(7,.sc (.int .i64)),(8,.sc (.int .i64))],[.box [.full 1,.sc (.int .i64)],.arr [.int .u8]]⟩ (fun ((num1,t,t1,o,o1):Int×Int×Int×Int×List Int)=>(t-t1).toNat+1) 0 ⟨[.int .i64,.list [.int .u8]],[],[.box [.full 1,.sc (.int .i64)],.arr [.int .u8]]⟩ (.seq .u (.seq .u (.seq (.blk (.seq .u (.join ⟨[.int .i64,.int .i64,.int .i64,.int .i64,.int .i64,.list [.int .u8]],[(0,.ptr 0 0),(1,.sc (.int .i64)),(6,.sc (.int .i64)),(7,.sc (.int .i64)),(8,.sc (.int .i64))],[.box [.full 1,.sc (.int .i64)],.arr [.int .u8]]⟩ .u .u))) .u)))))) ZeX.S d=ZeX.S.F d:=fun _=>by kernel_rfl
theorem ZeX.sound:Zah Tryz.prog C0 202 ZeX.S:=sE Za8 ZeX.ev (Zai trivial) Tryz.func202
def ZjU.S:ZaQ:=⟨1,[.ptr 0 0],[.box [.full 1,.sc (.int .i64)],.arr [.int .u8]],[.int .i64,.list [.int .u8]],⟨[.int .i64,.list [.int .u8]],.tup [],[.box [.full 1,.sc (.int .i64)],.arr [.int .u8]]⟩,
 fun ((many,b):Int×List Int)=>ZjU many b⟩
theorem ZjU.ev:∀d,Za7 C0 (hnd (tab [])) Tryz.f203 .u ZjU.S d=ZjU.S.F d:=fun _=>by kernel_rfl
theorem ZjU.sound:Zah Tryz.prog C0 203 ZjU.S:=sE Za8 ZjU.ev (Zai trivial) Tryz.func203
def ZiJ.S:ZaQ:=⟨1,[.ptr 0 0],[.box [.sc .str,.sc (.int .i64),.sc .bool]],[.str,.int .i64,.bool],⟨[.int .i64,.str,.int .i64,.bool],.sc (.int .i64),[.box [.sc .str,.sc (.int .i64),.sc .bool]]⟩,
 fun ((s,at_,bad):Str×Int×Bool)=>ZiJ s at_ bad⟩
theorem ZiJ.ev:∀d,Za7 C0 (hnd (tab [])) Tryz.f169 .u ZiJ.S d=ZiJ.S.F d:=fun _=>by kernel_rfl
theorem ZiJ.sound:Zah Tryz.prog C0 169 ZiJ.S:=sE Za8 ZiJ.ev (Zai trivial) Tryz.func169
def Ze2.S:ZaQ:=⟨1,[.ptr 0 0,.sc (.int .i64)],[.box [.sc .str,.sc (.int .i64),.sc .bool]],[.int .i64,.str,.int .i64,.bool],⟨[.int .i64,.str,.int .i64,.bool],.sc (.int .i64),[.box [.sc .str,.sc (.int .i64),.sc .bool]]⟩,
 fun ((bits,s,at_,bad):Int×Str×Int×Bool)=>Ze2 bits s at_ bad⟩
theorem Ze2.ev:∀d,Za7 C0 (hnd (tab [(169,ZiJ.S)])) Tryz.f170 (.seq .u (.seq .u (.seq (.seq .u (.blk (.loop ⟨[.int .i64,.int .i64,.int .i64,.str,.int .i64,.bool],[(0,.ptr 0 0),(5,.sc (.int .i64)),(7,.sc (.int .i64)),(8,.sc (.int .i64))],[.box [.sc .str,.sc (.int .i64),.sc .bool]]⟩ (fun ((n,t,t1,o,o1,o2):Int×Int×Int×Str×Int×Bool)=>(t-t1).toNat+1) 0 ⟨[.int .i64,.str,.int .i64,.bool],[(5,.sc (.int .i64))],[.box [.sc .str,.sc (.int .i64),.sc .bool]]⟩ .u))) .u))) Ze2.S d=Ze2.S.F d:=fun _=>by kernel_rfl
theorem Ze2.sound:Zah Tryz.prog C0 170 Ze2.S:=sE Za8 Ze2.ev (Zai ⟨ZiJ.sound,trivial⟩) Tryz.func170
def Zee.S:ZaQ:=⟨1,[.ptr 0 0],[.box [.sc .str,.sc (.int .i64),.sc .bool]],[.str,.int .i64,.bool],⟨[.str,.int .i64,.bool],.tup [],[.box [.sc .str,.sc (.int .i64),.sc .bool]]⟩,
 fun ((s,at_,bad):Str×Int×Bool)=>Zee s at_ bad⟩
theorem Zee.ev:∀d,Za7 C0 (hnd (tab [(169,ZiJ.S)])) Tryz.f175 (.blk (.loop ⟨[.str,.int .i64,.bool],[(0,.ptr 0 0)],[.box [.sc .str,.sc (.int .i64),.sc .bool]]⟩ (fun ((o,o1,o2):Str×Int×Bool)=>9) 0 ⟨[.str,.int .i64,.bool],[],[.box [.sc .str,.sc (.int .i64),.sc .bool]]⟩ .u)) Zee.S d=Zee.S.F d:=fun _=>by kernel_rfl
theorem Zee.sound:Zah Tryz.prog C0 175 Zee.S:=sE Za8 Zee.ev (Zai ⟨ZiJ.sound,trivial⟩) Tryz.func175
def ZbH.S:ZaQ:=⟨0,[.sc (.int .i64),.sc (.int .i64)],[],[.int .i64,.int .i64],⟨[.int .i64],.sc (.int .i64),[]⟩,
 fun ((num,bits):Int×Int)=>ZbH num bits⟩
theorem ZbH.ev:∀d,Za7 C0 (hnd (tab [(250,Zel.S)])) Tryz.f228 (.seq .u (.seq .u (.seq .u (.seq (.seq .u (.blk (.loop ⟨[.int .i64,.int .i64,.int .i64,.int .i64],[(0,.sc (.int .i64)),(5,.sc (.int .i64)),(12,.sc (.int .i64)),(13,.sc (.int .i64))],[]⟩ (fun ((num1,out,t,t1):Int×Int×Int×Int)=>(t-t1).toNat+1) 0 ⟨[.int .i64],[(5,.sc (.int .i64))],[]⟩ .u))) .u)))) ZbH.S d=ZbH.S.F d:=fun _=>by kernel_rfl
theorem ZbH.sound:Zah Tryz.prog C0 228 ZbH.S:=sE Za8 ZbH.ev (Zai ⟨Zel.sound,trivial⟩) Tryz.func228
def ZaM.S:ZaQ:=⟨0,[.sc (.int .u32),.sc .str],[],[.int .u32,.str],⟨[.int .u32],.sc (.int .u32),[]⟩,
 fun ((crc_,text):Int×Str)=>ZaM crc_ text⟩
theorem ZaM.ev:∀d,Za7 C0 (hnd (tab [])) Tryz.f201 (.seq .u (.seq .u (.seq (.seq .u (.blk (.loop ⟨[.int .u32,.str,.int .i64],[(0,.sc (.int .u32)),(1,.sc .str),(5,.sc (.int .i64))],[]⟩ (fun ((crc_1,text1,k):Int×Str×Int)=>((text1.length:Int)-k).toNat+1) 0 ⟨[.int .u32],[(0,.sc (.int .u32))],[]⟩ (.seq .u (.seq (.blk (.seq .u (.seq .u (.blk (.loop ⟨[.int .u32,.str,.int .i64,.int .i64],[(0,.sc (.int .u32)),(1,.sc .str),(5,.sc (.int .i64)),(20,.sc (.int .i64))],[]⟩ (fun ((crc_2,text2,k1,t):Int×Str×Int×Int)=>(8-t).toNat+1) 2 ⟨[.int .u32,.str,.int .i64],[(0,.sc (.int .u32)),(1,.sc .str),(5,.sc (.int .i64))],[]⟩ .u))))) .u))))) .u))) ZaM.S d=ZaM.S.F d:=fun _=>by kernel_rfl
theorem ZaM.sound:Zah Tryz.prog C0 201 ZaM.S:=sE Za8 ZaM.ev (Zai trivial) Tryz.func201
def crc.S:ZaQ:=⟨0,[.sc .str],[],[.str],⟨[.int .i64],.sc (.int .i64),[]⟩,
 fun (text:Str)=>crc text⟩
theorem crc.ev:∀d,Za7 C0 (hnd (tab [(201,ZaM.S)])) Tryz.f176 .u crc.S d=crc.S.F d:=fun _=>by kernel_rfl
theorem crc.sound:Zah Tryz.prog C0 176 crc.S:=sE Za8 crc.ev (Zai ⟨ZaM.sound,trivial⟩) Tryz.func176
def Zce.S:ZaQ:=⟨0,[.sc (.list [.int .i64])],[],[.list [.int .i64]],⟨[.bool],.sc .bool,[]⟩,
 fun (lens:List Int)=>Zce lens⟩
theorem Zce.ev:∀d,Za7 C0 (hnd (tab [(146,ZbC.S)])) Tryz.f195 (.seq .u (.seq .u (.seq .u (.seq (.seq .u (.blk (.loopS ⟨[.int .i64,.int .i64,.int .i64,.list [.int .i64],.int .i64,.int .i64],[(3,.sc (.int .i64)),(4,.sc (.int .i64)),(5,.sc (.int .i64)),(11,.sc (.list [.int .i64])),(12,.sc (.int .i64)),(13,.sc (.int .i64))],[]⟩ (fun ((sum,many,last,t,t1,t2):Int×Int×Int×List Int×Int×Int)=>(t1-t2).toNat+1) 0 ⟨[.int .i64,.int .i64,.int .i64],[(3,.sc (.int .i64)),(4,.sc (.int .i64)),(5,.sc (.int .i64))],[]⟩ .u))) (.seq (.reg [.bool] [(2,.sc .bool)]) .u))))) Zce.S d=Zce.S.F d:=fun _=>by kernel_rfl
theorem Zce.sound:Zah Tryz.prog C0 195 Zce.S:=sE Za8 Zce.ev (Zai ⟨ZbC.sound,trivial⟩) Tryz.func195
def ZcE.S:ZaQ:=⟨0,[.sc (.list [.int .i64])],[],[.list [.int .i64]],⟨[.list [.int .i64]],.full 0,[.arr [.int .i64]]⟩,
 fun (lens:List Int)=>ZcE lens⟩
theorem ZcE.ev:∀d,Za7 C0 (hnd (tab [])) Tryz.f209 (.seq .u (.seq .u (.seq .u (.seq (.seq .u (.blk (.loop ⟨[.list [.int .i64],.int .i64,.int .i64,.list [.int .i64]],[(0,.sc (.list [.int .i64])),(3,.full 0),(4,.sc (.int .i64)),(5,.sc (.int .i64))],[.arr [.int .i64]]⟩ (fun ((lens1,next_,l,out):List Int×Int×Int×List Int)=>(15-l).toNat+2) 0 ⟨[.list [.int .i64]],[(3,.full 0)],[.arr [.int .i64]]⟩ (.seq .u (.seq (.blk (.seq (.seq .u (.blk (.loop ⟨[.list [.int .i64],.int .i64,.int .i64,.list [.int .i64],.int .i64,.int .i64,.list [.int .i64]],[(0,.sc (.list [.int .i64])),(3,.full 0),(4,.sc (.int .i64)),(5,.sc (.int .i64)),(15,.sc (.list [.int .i64])),(16,.sc (.int .i64)),(17,.sc (.int .i64))],[.arr [.int .i64]]⟩ (fun ((lens2,next_1,l1,t,t1,t2,out1):List Int×Int×Int×List Int×Int×Int×List Int)=>(t1-t2).toNat+1) 2 ⟨[.list [.int .i64],.int .i64,.int .i64,.list [.int .i64]],[(0,.sc (.list [.int .i64])),(3,.full 0),(4,.sc (.int .i64)),(5,.sc (.int .i64))],[.arr [.int .i64]]⟩ .u))) .u)) .u))))) .u)))) ZcE.S d=ZcE.S.F d:=fun _=>by kernel_rfl
theorem ZcE.sound:Zah Tryz.prog C0 209 ZcE.S:=sE Za8 ZcE.ev (Zai trivial) Tryz.func209
def Za3.S:ZaQ:=⟨0,[.sc (.list [.int .i64,.ints .i64])],[],[.list [.int .i64,.ints .i64]],⟨[.int .i64,.list [.int .i64],.list [.int .i64,.ints .i64]],.tup [.agg [.sc (.int .i64),.sc (.list [.int .i64])],.full 0],[.arr [.int .i64,.ints .i64]]⟩,
 fun (list:List (Int×List Int))=>Za3 list⟩
theorem Za3.ev:∀d,Za7 C0 (hnd (tab [])) Tryz.f249 (.seq .u (.seq .u (.seq (.seq .u (.blk (.loop ⟨[.list [.int .i64,.ints .i64],.int .i64,.list [.int .i64,.ints .i64],.int .i64,.int .i64,.int .i64,.list [.int .i64]],[(0,.sc (.list [.int .i64,.ints .i64])),(2,.ptr 0 0),(4,.sc (.int .i64)),(8,.sc (.list [.int .i64,.ints .i64])),(9,.sc (.int .i64)),(10,.sc (.int .i64))],[.box [.sc (.int .i64),.full 1],.arr [.int .i64]]⟩ (fun ((list1,at_,t,t1,t2,o,o1):(List (Int×List Int))×Int×(List (Int×List Int))×Int×Int×Int×List Int)=>(t1-t2).toNat+1) 0 ⟨[.list [.int .i64,.ints .i64],.int .i64,.int .i64,.list [.int .i64]],[(0,.sc (.list [.int .i64,.ints .i64])),(2,.ptr 0 0),(4,.sc (.int .i64))],[.box [.sc (.int .i64),.full 1],.arr [.int .i64]]⟩ (.seq .u (.seq .u (.seq (.blk (.seq .u (.seq (.reg [.bool] [(46,.sc .bool)]) .u))) .u)))))) .u))) Za3.S d=Za3.S.F d:=fun _=>by kernel_rfl
theorem Za3.sound:Zah Tryz.prog C0 249 Za3.S:=sE Za8 Za3.ev (Zai trivial) Tryz.func249
end Ev
end
section
open Go Go.Proofs
set_option maxRecDepth 100000
namespace Ev
set_option maxHeartbeats 1000000
def Zbo.S:ZaQ:=⟨0,[.sc (.list [.int .i64])],[],[.list [.int .i64]],⟨[.list [.int .i64]],.full 0,[.arr [.int .i64]]⟩,
 fun (counts:List Int)=>Zbo counts⟩
theorem Zbo.ev:∀d,Za7 C0 (hnd (tab [(249,Za3.S)])) Tryz.f227 (.seq .u (.seq .u (.seq .u (.seq (.seq .u (.blk (.loop ⟨[.list [.int .i64],.int .i64,.int .i64,.list [.int .i64],.list [.int .i64,.ints .i64]],[(3,.full 0),(4,.full 1),(18,.sc (.list [.int .i64])),(19,.sc (.int .i64)),(20,.sc (.int .i64))],[.arr [.int .i64],.arr [.int .i64,.ints .i64]]⟩ (fun ((t,t1,t2,out,list):List Int×Int×Int×List Int×List (Int×List Int))=>(t1-t2).toNat+1) 0 ⟨[.list [.int .i64],.list [.int .i64,.ints .i64]],[(3,.full 0),(4,.full 1)],[.arr [.int .i64],.arr [.int .i64,.ints .i64]]⟩ .u))) (.seq .u (.seq (.blk (.loop ⟨[.list [.int .i64],.list [.int .i64,.ints .i64]],[(3,.full 0),(4,.full 1)],[.arr [.int .i64],.arr [.int .i64,.ints .i64]]⟩ (fun ((out2,list2):List Int×List (Int×List Int))=>((list2.length:Int)-1).toNat+1) 2 ⟨[.list [.int .i64]],[(3,.full 0)],[.arr [.int .i64]]⟩ (.seq .u (.blk (.seq .u (.seq .u (.seq .u (.seq (.seq .u (.blk (.loop ⟨[.int .i64,.int .i64,.list [.int .i64],.int .i64,.list [.int .i64],.int .i64,.list [.int .i64],.list [.int .i64,.ints .i64],.list [.int .i64]],[(3,.full 0),(7,.ptr 1 0),(9,.ptr 2 0),(10,.full 3),(11,.full 4),(67,.full 4),(68,.sc (.int .i64)),(69,.sc (.int .i64))],[.arr [.int .i64],.box [.sc (.int .i64),.sc (.list [.int .i64])],.box [.sc (.int .i64),.sc (.list [.int .i64])],.arr [.int .i64,.ints .i64],.arr [.int .i64]]⟩ (fun ((t3,t4,out3,o,o1,o2,o3,left,o4):Int×Int×List Int×Int×List Int×Int×List Int×(List (Int×List Int))×List Int)=>(t3-t4).toNat+1) 4 ⟨[.list [.int .i64],.int .i64,.list [.int .i64],.int .i64,.list [.int .i64],.list [.int .i64,.ints .i64],.list [.int .i64]],[(3,.full 0),(7,.ptr 1 0),(9,.ptr 2 0),(10,.full 3),(11,.full 4)],[.arr [.int .i64],.box [.sc (.int .i64),.sc (.list [.int .i64])],.box [.sc (.int .i64),.sc (.list [.int .i64])],.arr [.int .i64,.ints .i64],.arr [.int .i64]]⟩ .u))) .u)))))))) .u)))))) Zbo.S d=Zbo.S.F d:=fun _=>by kernel_rfl
theorem Zbo.sound:Zah Tryz.prog C0 227 Zbo.S:=sE Za8 Zbo.ev (Zai ⟨Za3.sound,trivial⟩) Tryz.func227
def Za0.S:ZaQ:=⟨0,[.sc (.list [.int .i64]),.sc (.int .i64)],[],[.list [.int .i64],.int .i64],⟨[.list [.int .i64]],.full 0,[.arr [.int .i64]]⟩,
 fun ((counts,most):List Int×Int)=>Za0 counts most⟩
theorem Za0.ev:∀d,Za7 C0 (hnd (tab [(146,ZbC.S),(227,Zbo.S)])) Tryz.f208 (.seq .u (.seq (.seq (.reg [.bool] [(21,.sc .bool)]) .u) (.seq .u (.seq .u (.seq (.seq .u (.blk (.loopS ⟨[.int .i64,.int .i64,.list [.int .i64],.int .i64,.int .i64,.list [.int .i64]],[(1,.sc (.int .i64)),(5,.full 0),(6,.sc (.int .i64)),(24,.sc (.list [.int .i64])),(25,.sc (.int .i64)),(26,.sc (.int .i64))],[.arr [.int .i64]]⟩ (fun ((most1,many,t,t1,t2,now):Int×Int×List Int×Int×Int×List Int)=>(t1-t2).toNat+1) 0 ⟨[.int .i64,.int .i64,.list [.int .i64]],[(1,.sc (.int .i64)),(5,.full 0),(6,.sc (.int .i64))],[.arr [.int .i64]]⟩ .u))) (.seq .u (.blk (.loopS ⟨[.int .i64,.list [.int .i64]],[(1,.sc (.int .i64)),(5,.full 0)],[.arr [.int .i64]]⟩ (fun ((most3,now2):Int×List Int)=>100000) 9999 ⟨[],[],[]⟩ (.blk (.seq .u (.seq .u (.seq (.seq .u (.blk (.loop ⟨[.int .i64,.int .i64,.int .i64,.int .i64,.list [.int .i64],.list [.int .i64]],[(1,.sc (.int .i64)),(5,.full 0),(9,.full 1),(10,.sc (.int .i64)),(52,.full 1),(53,.sc (.int .i64)),(54,.sc (.int .i64))],[.arr [.int .i64],.arr [.int .i64]]⟩ (fun ((most4,long,t3,t4,now3,o):Int×Int×Int×Int×List Int×List Int)=>(t3-t4).toNat+1) 4 ⟨[.int .i64,.int .i64,.list [.int .i64],.list [.int .i64]],[(1,.sc (.int .i64)),(5,.full 0),(9,.full 1),(10,.sc (.int .i64))],[.arr [.int .i64],.arr [.int .i64]]⟩ .u))) (.seq .u (.seq .u (.blk (.loop ⟨[.int .i64,.int .i64,.int .i64,.list [.int .i64]],[(1,.sc (.int .i64)),(5,.full 0),(67,.sc (.int .i64)),(68,.sc (.int .i64))],[.arr [.int .i64]]⟩ (fun ((most6,t5,t6,now5):Int×Int×Int×List Int)=>(t5-t6).toNat+1) 6 ⟨[.int .i64,.list [.int .i64]],[(1,.sc (.int .i64)),(5,.full 0)],[.arr [.int .i64]]⟩ .u)))))))))))))))) Za0.S d=Za0.S.F d:=fun _=>by kernel_rfl
theorem Za0.sound:Zah Tryz.prog C0 208 Za0.S:=sE Za8 Za0.ev (Zai ⟨ZbC.sound,Zbo.sound,trivial⟩) Tryz.func208
def Zcg.S:ZaQ:=⟨0,[.sc (.list [.int .i64])],[],[.list [.int .i64]],⟨[.map [.int .i64,.int .i64] [.int .i64]],.map 0,[.map [.int .i64,.int .i64] [.int .i64]]⟩,
 fun (lens:List Int)=>Zcg lens⟩
theorem Zcg.ev:∀d,Za7 C0 (hnd (tab [(209,ZcE.S)])) Tryz.f196 (.seq .u (.seq .u (.seq (.seq .u (.blk (.loop ⟨[.list [.int .i64],.int .i64,.int .i64,.map [.int .i64,.int .i64] [.int .i64],.list [.int .i64]],[(0,.sc (.list [.int .i64])),(3,.map 0),(8,.full 1),(9,.sc (.int .i64)),(10,.sc (.int .i64))],[.map [.int .i64,.int .i64] [.int .i64],.arr [.int .i64]]⟩ (fun ((lens1,t,t1,o,o1):List Int×Int×Int×(List ((Int×Int)×Int))×List Int)=>(t-t1).toNat+1) 0 ⟨[.map [.int .i64,.int .i64] [.int .i64]],[(3,.map 0)],[.map [.int .i64,.int .i64] [.int .i64]]⟩ .u))) .u))) Zcg.S d=Zcg.S.F d:=fun _=>by kernel_rfl
theorem Zcg.sound:Zah Tryz.prog C0 196 Zcg.S:=sE Za8 Zcg.ev (Zai ⟨ZcE.sound,trivial⟩) Tryz.func196
def Zbq.S:ZaQ:=⟨2,[.ptr 0 0,.map 1],[.box [.sc .str,.sc (.int .i64),.sc .bool],.map [.int .i64,.int .i64] [.int .i64]],[.str,.int .i64,.bool,.map [.int .i64,.int .i64] [.int .i64]],⟨[.int .i64,.str,.int .i64,.bool,.map [.int .i64,.int .i64] [.int .i64]],.sc (.int .i64),[.box [.sc .str,.sc (.int .i64),.sc .bool],.map [.int .i64,.int .i64] [.int .i64]]⟩,
 fun ((s,at_,bad,book):Str×Int×Bool×List ((Int×Int)×Int))=>Zbq s at_ bad book⟩
theorem Zbq.ev:∀d,Za7 C0 (hnd (tab [(169,ZiJ.S)])) Tryz.f197 (.seq .u (.seq .u (.seq (.seq .u (.blk (.loopS ⟨[.int .i64,.int .i64,.str,.int .i64,.bool,.map [.int .i64,.int .i64] [.int .i64]],[(0,.ptr 0 0),(1,.map 1),(5,.sc (.int .i64)),(6,.sc (.int .i64))],[.box [.sc .str,.sc (.int .i64),.sc .bool],.map [.int .i64,.int .i64] [.int .i64]]⟩ (fun ((code_,l,o,o1,o2,o3):Int×Int×Str×Int×Bool×List ((Int×Int)×Int))=>(15-l).toNat+2) 0 ⟨[.str,.int .i64,.bool,.map [.int .i64,.int .i64] [.int .i64]],[(0,.ptr 0 0)],[.box [.sc .str,.sc (.int .i64),.sc .bool],.map [.int .i64,.int .i64] [.int .i64]]⟩ (.seq .u (.seq (.blk (.seq .u (.seq .u (.seq (.reg [.bool] [(33,.sc .bool)]) .u)))) .u))))) .u))) Zbq.S d=Zbq.S.F d:=fun _=>by kernel_rfl
theorem Zbq.sound:Zah Tryz.prog C0 197 Zbq.S:=sE Za8 Zbq.ev (Zai ⟨ZiJ.sound,trivial⟩) Tryz.func197
def add.S:ZaQ:=⟨0,[.full 0,.agg [.sc (.int .i64),.sc (.int .i64),.sc (.int .i64)]],[.arr [.int .u8]],[.int .i64,.int .i64,.int .i64,.list [.int .u8]],⟨[.bool,.list [.int .u8]],.tup [.full 0,.sc .bool],[.arr [.int .u8]]⟩,
 fun ((byte,long,back,out):Int×Int×Int×List Int)=>add byte long back out⟩
theorem add.ev:∀d,Za7 C0 (hnd (tab [(146,ZbC.S)])) Tryz.f200 (.seq .u (.seq (.seq .u (.cond (.seq (.seq (.reg [.bool] [(17,.sc .bool)]) .u) .u) .u)) (.seq (.seq (.reg [.bool] [(41,.sc .bool)]) .u) (.seq (.seq .u (.blk (.loop ⟨[.int .i64,.int .i64,.list [.int .u8],.int .i64,.int .i64,.int .i64],[(0,.full 0),(3,.ptr 1 0),(43,.sc (.int .i64)),(44,.sc (.int .i64))],[.arr [.int .u8],.box [.sc (.int .i64),.sc (.int .i64),.sc (.int .i64)]]⟩ (fun ((t,t1,out1,o,o1,o2):Int×Int×List Int×Int×Int×Int)=>(t-t1).toNat+1) 0 ⟨[.list [.int .u8]],[(0,.full 0)],[.arr [.int .u8]]⟩ .u))) .u)))) add.S d=add.S.F d:=fun _=>by kernel_rfl
theorem add.sound:Zah Tryz.prog C0 200 add.S:=sE Za8 add.ev (Zai ⟨ZbC.sound,trivial⟩) Tryz.func200
def Zay.S:ZaQ:=⟨0,[.sc .str],[],[.str],⟨[.list [.int .i64,.int .i64,.int .i64]],.full 0,[.arr [.int .i64,.int .i64,.int .i64]]⟩,
 fun (text:Str)=>Zay text⟩
theorem Zay.ev:∀d,Za7 C0 (hnd (tab [])) Tryz.f205 (.seq .u (.seq .u (.seq .u (.seq (.seq .u (.blk (.loop ⟨[.str,.int .i64,.list [.int .i64,.int .i64,.int .i64]],[(0,.sc .str),(3,.full 0),(4,.sc (.int .i64))],[.arr [.int .i64,.int .i64,.int .i64]]⟩ (fun ((text1,at_,out):Str×Int×List (Int×Int×Int))=>((text1.length:Int)-at_).toNat+1) 0 ⟨[.list [.int .i64,.int .i64,.int .i64]],[(3,.full 0)],[.arr [.int .i64,.int .i64,.int .i64]]⟩ (.seq .u (.blk (.seq .u (.seq (.seq .u (.blk (.loop ⟨[.str,.int .i64,.int .i64,.list [.int .i64,.int .i64,.int .i64],.int .i64,.int .i64,.int .i64],[(0,.sc .str),(3,.full 0),(4,.sc (.int .i64)),(5,.ptr 1 0),(6,.sc (.int .i64))],[.arr [.int .i64,.int .i64,.int .i64],.box [.sc (.int .i64),.sc (.int .i64),.sc (.int .i64)]]⟩ (fun ((text2,at_1,back,out1,o,o1,o2):Str×Int×Int×(List (Int×Int×Int))×Int×Int×Int)=>((ZpQ 250 at_1)-back).toNat+2) 2 ⟨[.str,.int .i64,.list [.int .i64,.int .i64,.int .i64],.int .i64,.int .i64,.int .i64],[(0,.sc .str),(3,.full 0),(4,.sc (.int .i64)),(5,.ptr 1 0)],[.arr [.int .i64,.int .i64,.int .i64],.box [.sc (.int .i64),.sc (.int .i64),.sc (.int .i64)]]⟩ (.seq .u (.seq (.blk (.seq .u (.seq (.blk (.loop ⟨[.str,.int .i64,.int .i64,.int .i64,.list [.int .i64,.int .i64,.int .i64],.int .i64,.int .i64,.int .i64],[(0,.sc .str),(3,.full 0),(4,.sc (.int .i64)),(5,.ptr 1 0),(6,.sc (.int .i64)),(7,.sc (.int .i64))],[.arr [.int .i64,.int .i64,.int .i64],.box [.sc (.int .i64),.sc (.int .i64),.sc (.int .i64)]]⟩ (fun ((text3,at_2,back1,n,out2,o3,o4,o5):Str×Int×Int×Int×(List (Int×Int×Int))×Int×Int×Int)=>(60-n).toNat+1) 4 ⟨[.str,.int .i64,.int .i64,.int .i64,.list [.int .i64,.int .i64,.int .i64],.int .i64,.int .i64,.int .i64],[(0,.sc .str),(3,.full 0),(4,.sc (.int .i64)),(5,.ptr 1 0),(6,.sc (.int .i64)),(7,.sc (.int .i64))],[.arr [.int .i64,.int .i64,.int .i64],.box [.sc (.int .i64),.sc (.int .i64),.sc (.int .i64)]]⟩ (.seq (.seq (.reg [.bool] [(52,.sc .bool)]) .u) .u))) (.seq (.reg [.bool] [(62,.sc .bool)]) .u)))) .u))))) .u))))))) .u)))) Zay.S d=Zay.S.F d:=fun _=>by kernel_rfl
theorem Zay.sound:Zah Tryz.prog C0 205 Zay.S:=sE Za8 Zay.ev (Zai trivial) Tryz.func205
def Zcs.S:ZaQ:=⟨0,[.sc (.int .i64),.sc (.int .i64),.sc (.int .i64),.sc (.int .i64)],[],[.int .i64,.int .i64,.int .i64,.int .i64],⟨[.list [.int .i64],.list [.int .i64]],.agg [.sc (.list [.int .i64]),.sc (.list [.int .i64])],[]⟩,
 fun ((from_,many,plain,each):Int×Int×Int×Int)=>Zcs from_ many plain each⟩
theorem Zcs.ev:∀d,Za7 C0 (hnd (tab [])) Tryz.f226 (.seq .u (.seq .u (.seq (.seq .u (.blk (.loop ⟨[.int .i64,.int .i64,.int .i64,.int .i64,.int .i64,.list [.int .i64],.list [.int .i64],.list [.int .i64],.list [.int .i64]],[(0,.sc (.int .i64)),(2,.sc (.int .i64)),(3,.sc (.int .i64)),(8,.ptr 0 0),(9,.ptr 1 0),(13,.sc (.int .i64)),(14,.sc (.int .i64))],[.box [.full 2,.full 3],.box [.full 4,.full 5],.arr [.int .i64],.arr [.int .i64],.arr [.int .i64],.arr [.int .i64]]⟩ (fun ((from_1,plain1,each1,t,t1,o,o1,o2,o3):Int×Int×Int×Int×Int×List Int×List Int×List Int×List Int)=>(t-t1).toNat+1) 0 ⟨[.list [.int .i64],.list [.int .i64],.list [.int .i64],.list [.int .i64]],[(8,.ptr 0 0),(9,.ptr 1 0)],[.box [.full 2,.full 3],.box [.full 4,.full 5],.arr [.int .i64],.arr [.int .i64],.arr [.int .i64],.arr [.int .i64]]⟩ (.seq .u (.seq .u (.seq (.blk (.seq .u (.seq .u (.join ⟨[.int .i64,.int .i64,.int .i64,.int .i64,.int .i64,.int .i64,.list [.int .i64],.list [.int .i64],.list [.int .i64],.list [.int .i64]],[(0,.sc (.int .i64)),(2,.sc (.int .i64)),(3,.sc (.int .i64)),(8,.ptr 0 0),(9,.ptr 1 0),(11,.sc (.int .i64)),(13,.sc (.int .i64)),(14,.sc (.int .i64))],[.box [.full 2,.full 3],.box [.full 4,.full 5],.arr [.int .i64],.arr [.int .i64],.arr [.int .i64],.arr [.int .i64]]⟩ .u .u)))) .u)))))) .u))) Zcs.S d=Zcs.S.F d:=fun _=>by kernel_rfl
theorem Zcs.sound:Zah Tryz.prog C0 226 Zcs.S:=sE Za8 Zcs.ev (Zai trivial) Tryz.func226
def Zb2.S:ZaQ:=⟨0,[],[],[],⟨[.list [.int .i64],.list [.int .i64]],.agg [.sc (.list [.int .i64]),.sc (.list [.int .i64])],[]⟩,
 fun (_:Unit)=>Zb2⟩
theorem Zb2.ev:∀d,Za7 C0 (hnd (tab [(226,Zcs.S)])) Tryz.f198 .u Zb2.S d=Zb2.S.F d:=fun _=>by kernel_rfl
theorem Zb2.sound:Zah Tryz.prog C0 198 Zb2.S:=sE Za8 Zb2.ev (Zai ⟨Zcs.sound,trivial⟩) Tryz.func198
def Zb6.S:ZaQ:=⟨0,[],[],[],⟨[.list [.int .i64],.list [.int .i64]],.agg [.sc (.list [.int .i64]),.sc (.list [.int .i64])],[]⟩,
 fun (_:Unit)=>Zb6⟩
theorem Zb6.ev:∀d,Za7 C0 (hnd (tab [(226,Zcs.S)])) Tryz.f199 .u Zb6.S d=Zb6.S.F d:=fun _=>by kernel_rfl
theorem Zb6.sound:Zah Tryz.prog C0 199 Zb6.S:=sE Za8 Zb6.ev (Zai ⟨Zcs.sound,trivial⟩) Tryz.func199
def Zcp.S:ZaQ:=⟨0,[.agg [.sc (.list [.int .i64]),.sc (.list [.int .i64])],.sc (.int .i64)],[],[.list [.int .i64],.list [.int .i64],.int .i64],⟨[.int .i64],.sc (.int .i64),[]⟩,
 fun ((first,bits,n):List Int×List Int×Int)=>Zcp first bits n⟩
theorem Zcp.ev:∀d,Za7 C0 (hnd (tab [])) Tryz.f206 (.seq .u (.seq .u (.seq (.blk (.loop ⟨[.int .i64,.int .i64,.list [.int .i64],.list [.int .i64]],[(1,.sc (.int .i64)),(2,.ptr 0 0),(5,.sc (.int .i64))],[.box [.sc (.list [.int .i64]),.sc (.list [.int .i64])]]⟩ (fun ((n1,k,o,o1):Int×Int×List Int×List Int)=>k.toNat+1) 0 ⟨[.int .i64],[(5,.sc (.int .i64))],[]⟩ .u)) .u))) Zcp.S d=Zcp.S.F d:=fun _=>by kernel_rfl
theorem Zcp.sound:Zah Tryz.prog C0 206 Zcp.S:=sE Za8 Zcp.ev (Zai trivial) Tryz.func206
def Zbs.S:ZaQ:=⟨0,[],[],[],⟨[.list [.int .i64],.list [.int .i64]],.tup [.full 0,.full 1],[.arr [.int .i64],.arr [.int .i64]]⟩,
 fun (_:Unit)=>Zbs⟩
theorem Zbs.ev:∀d,Za7 C0 (hnd (tab [])) Tryz.f172 (.seq .u (.seq .u (.seq (.seq .u (.blk (.loop ⟨[.int .i64,.int .i64,.list [.int .i64]],[(2,.full 0),(8,.sc (.int .i64)),(9,.sc (.int .i64))],[.arr [.int .i64]]⟩ (fun ((t,t1,lit):Int×Int×List Int)=>(t-t1).toNat+1) 0 ⟨[.list [.int .i64]],[(2,.full 0)],[.arr [.int .i64]]⟩ (.seq .u (.seq .u (.seq (.blk (.seq .u (.blk (.seq (.reg [.bool] [(15,.sc .bool)]) .u)))) .u)))))) (.seq .u (.seq (.seq .u (.blk (.loop ⟨[.int .i64,.int .i64,.list [.int .i64],.list [.int .i64]],[(2,.full 0),(4,.full 1),(34,.sc (.int .i64)),(35,.sc (.int .i64))],[.arr [.int .i64],.arr [.int .i64]]⟩ (fun ((t2,t3,lit2,dist):Int×Int×List Int×List Int)=>(t2-t3).toNat+1) 3 ⟨[.list [.int .i64],.list [.int .i64]],[(2,.full 0),(4,.full 1)],[.arr [.int .i64],.arr [.int .i64]]⟩ .u))) .u))))) Zbs.S d=Zbs.S.F d:=fun _=>by kernel_rfl
theorem Zbs.sound:Zah Tryz.prog C0 172 Zbs.S:=sE Za8 Zbs.ev (Zai trivial) Tryz.func172
def ZdA.S:ZaQ:=⟨0,[.sc .str],[],[.str],⟨[.str],.sc .str,[]⟩,
 fun (text:Str)=>ZdA text⟩
theorem ZdA.ev:∀d,Za7 C0 (hnd (tab [(202,ZeX.S),(203,ZjU.S)])) Tryz.f177 .u ZdA.S d=ZdA.S.F d:=fun _=>by kernel_rfl
theorem ZdA.sound:Zah Tryz.prog C0 177 ZdA.S:=sE Za8 ZdA.ev (Zai ⟨ZeX.sound,ZjU.sound,trivial⟩) Tryz.func177
def Zge.S:ZaQ:=⟨1,[.ptr 0 0,.sc (.list [.int .i64]),.sc (.list [.int .i64]),.sc (.int .i64)],[.box [.full 1,.sc (.int .i64)],.arr [.int .u8]],[.list [.int .i64],.list [.int .i64],.int .i64,.int .i64,.list [.int .u8]],⟨[.int .i64,.list [.int .u8]],.tup [],[.box [.full 1,.sc (.int .i64)],.arr [.int .u8]]⟩,
 fun ((lens,all,s,many,b):List Int×List Int×Int×Int×List Int)=>Zge lens all s many b⟩
theorem Zge.ev:∀d,Za7 C0 (hnd (tab [(202,ZeX.S),(228,ZbH.S)])) Tryz.f210 .u Zge.S d=Zge.S.F d:=fun _=>by kernel_rfl
theorem Zge.sound:Zah Tryz.prog C0 210 Zge.S:=sE Za8 Zge.ev (Zai ⟨ZeX.sound,ZbH.sound,trivial⟩) Tryz.func210
def ZbP.S:ZaQ:=⟨1,[.ptr 0 0,.sc (.list [.int .i64,.int .i64,.int .i64]),.sc (.list [.int .i64]),.sc (.list [.int .i64])],[.box [.full 1,.sc (.int .i64)],.arr [.int .u8]],[.list [.int .i64,.int .i64,.int .i64],.list [.int .i64],.list [.int .i64],.int .i64,.list [.int .u8]],⟨[.int .i64,.list [.int .u8]],.tup [],[.box [.full 1,.sc (.int .i64)],.arr [.int .u8]]⟩,
 fun ((list,lit,dist,many,b):(List (Int×Int×Int))×List Int×List Int×Int×List Int)=>ZbP list lit dist many b⟩
theorem ZbP.ev:∀d,Za7 C0 (hnd (tab [(198,Zb2.S),(199,Zb6.S),(202,ZeX.S),(206,Zcp.S),(209,ZcE.S),(210,Zge.S)])) Tryz.f204 (.seq .u (.seq (.seq .u (.blk (.loop ⟨[.list [.int .i64],.list [.int .i64],.list [.int .i64,.int .i64,.int .i64],.int .i64,.int .i64,.int .i64,.list [.int .i64],.list [.int .i64],.list [.int .u8]],[(0,.ptr 0 0),(2,.sc (.list [.int .i64])),(3,.sc (.list [.int .i64])),(8,.full 1),(9,.full 2),(17,.sc (.list [.int .i64,.int .i64,.int .i64])),(18,.sc (.int .i64)),(19,.sc (.int .i64))],[.box [.full 3,.sc (.int .i64)],.arr [.int .i64],.arr [.int .i64],.arr [.int .u8]]⟩ (fun ((lit1,dist1,t,t1,t2,o,a,b1,o1):List Int×List Int×(List (Int×Int×Int))×Int×Int×Int×List Int×List Int×List Int)=>(t1-t2).toNat+1) 0 ⟨[.list [.int .i64],.int .i64,.list [.int .i64],.list [.int .u8]],[(0,.ptr 0 0),(2,.sc (.list [.int .i64])),(8,.full 1)],[.box [.full 2,.sc (.int .i64)],.arr [.int .i64],.arr [.int .u8]]⟩ .u))) .u)) ZbP.S d=ZbP.S.F d:=fun _=>by kernel_rfl
theorem ZbP.sound:Zah Tryz.prog C0 204 ZbP.S:=sE Za8 ZbP.ev (Zai ⟨Zb2.sound,Zb6.sound,ZeX.sound,Zcp.sound,ZcE.sound,Zge.sound,trivial⟩) Tryz.func204
def ZdG.S:ZaQ:=⟨0,[.sc .str],[],[.str],⟨[.str],.sc .str,[]⟩,
 fun (text:Str)=>ZdG text⟩
theorem ZdG.ev:∀d,Za7 C0 (hnd (tab [(172,Zbs.S),(202,ZeX.S),(204,ZbP.S),(205,Zay.S)])) Tryz.f178 .u ZdG.S d=ZdG.S.F d:=fun _=>by kernel_rfl
theorem ZdG.sound:Zah Tryz.prog C0 178 ZdG.S:=sE Za8 ZdG.ev (Zai ⟨Zbs.sound,ZeX.sound,ZbP.sound,Zay.sound,trivial⟩) Tryz.func178
def ZbL.S:ZaQ:=⟨0,[.sc (.list [.int .i64]),.sc (.int .i64)],[],[.list [.int .i64],.int .i64],⟨[.list [.int .i64]],.sc (.list [.int .i64]),[]⟩,
 fun ((lens,least_):List Int×Int)=>ZbL lens least_⟩
theorem ZbL.ev:∀d,Za7 C0 (hnd (tab [])) Tryz.f207 (.seq .u (.seq .u (.seq (.blk (.loop ⟨[.list [.int .i64],.int .i64,.int .i64],[(0,.sc (.list [.int .i64])),(1,.sc (.int .i64)),(5,.sc (.int .i64))],[]⟩ (fun ((lens1,least_1,n):List Int×Int×Int)=>(n-least_1).toNat+1) 0 ⟨[.list [.int .i64],.int .i64],[(0,.sc (.list [.int .i64])),(5,.sc (.int .i64))],[]⟩ (.seq (.seq (.reg [.bool] [(18,.sc .bool)]) .u) .u))) .u))) ZbL.S d=ZbL.S.F d:=fun _=>by kernel_rfl
theorem ZbL.sound:Zah Tryz.prog C0 207 ZbL.S:=sE Za8 ZbL.ev (Zai trivial) Tryz.func207
def Za2.S:ZaQ:=⟨0,[.sc .str],[],[.str],⟨[.str],.sc .str,[]⟩,
 fun (text:Str)=>Za2 text⟩
theorem Za2.ev:∀d,Za7 C0 (hnd (tab [(198,Zb2.S),(199,Zb6.S),(202,ZeX.S),(204,ZbP.S),(205,Zay.S),(206,Zcp.S),(207,ZbL.S),(208,Za0.S),(209,ZcE.S),(210,Zge.S)])) Tryz.f179 (.seq .u (.seq .u (.seq .u (.seq .u (.seq .u (.seq .u (.seq (.seq .u (.blk (.loop ⟨[.bool,.int .i64,.int .i64,.list [.int .i64,.int .i64,.int .i64],.list [.int .i64],.list [.int .i64]],[(3,.full 0),(4,.full 1),(5,.full 2),(6,.sc .bool),(31,.full 0),(32,.sc (.int .i64)),(33,.sc (.int .i64))],[.arr [.int .i64,.int .i64,.int .i64],.arr [.int .i64],.arr [.int .i64]]⟩ (fun ((none_,t,t1,o,a,b):Bool×Int×Int×(List (Int×Int×Int))×List Int×List Int)=>(t-t1).toNat+1) 0 ⟨[.bool,.list [.int .i64,.int .i64,.int .i64],.list [.int .i64],.list [.int .i64]],[(3,.full 0),(4,.full 1),(5,.full 2),(6,.sc .bool)],[.arr [.int .i64,.int .i64,.int .i64],.arr [.int .i64],.arr [.int .i64]]⟩ .u))) (.join ⟨[.list [.int .i64,.int .i64,.int .i64],.list [.int .i64],.list [.int .i64]],[(3,.full 0),(4,.full 1),(5,.full 2)],[.arr [.int .i64,.int .i64,.int .i64],.arr [.int .i64],.arr [.int .i64]]⟩ .u (.seq .u (.seq .u (.seq .u (.seq (.seq .u (.blk (.loop ⟨[.list [.int .i64],.list [.int .i64],.int .i64,.int .i64,.list [.int .i64,.int .i64,.int .i64],.list [.int .i64],.list [.int .i64]],[(3,.full 0),(9,.sc (.list [.int .i64])),(10,.sc (.list [.int .i64])),(11,.full 1),(12,.full 2),(84,.full 1),(85,.sc (.int .i64)),(86,.sc (.int .i64))],[.arr [.int .i64,.int .i64,.int .i64],.arr [.int .i64],.arr [.int .i64]]⟩ (fun ((lit,dist,t2,t3,list2,o1,c):List Int×List Int×Int×Int×(List (Int×Int×Int))×List Int×List Int)=>(t2-t3).toNat+1) 2 ⟨[.list [.int .i64],.list [.int .i64],.list [.int .i64,.int .i64,.int .i64],.list [.int .i64],.list [.int .i64]],[(3,.full 0),(9,.sc (.list [.int .i64])),(10,.sc (.list [.int .i64])),(11,.full 1),(12,.full 2)],[.arr [.int .i64,.int .i64,.int .i64],.arr [.int .i64],.arr [.int .i64]]⟩ .u))) (.seq .u (.seq .u (.seq .u (.seq .u (.seq .u (.seq .u (.seq .u (.seq (.seq .u (.blk (.loop ⟨[.list [.int .i64],.list [.int .i64],.list [.int .i64],.int .i64,.int .i64,.list [.int .i64,.int .i64,.int .i64],.list [.int .i64],.list [.int .i64],.int .i64,.list [.int .u8]],[(3,.full 0),(9,.sc (.list [.int .i64])),(10,.sc (.list [.int .i64])),(11,.full 1),(15,.full 2),(16,.ptr 3 0),(120,.sc (.list [.int .i64])),(121,.sc (.int .i64)),(122,.sc (.int .i64))],[.arr [.int .i64,.int .i64,.int .i64],.arr [.int .i64],.arr [.int .i64],.box [.full 4,.sc (.int .i64)],.arr [.int .u8]]⟩ (fun ((lit2,dist2,t4,t5,t6,list4,all1,meta_,o2,o3):List Int×List Int×List Int×Int×Int×(List (Int×Int×Int))×List Int×List Int×Int×List Int)=>(t5-t6).toNat+1) 4 ⟨[.list [.int .i64],.list [.int .i64],.list [.int .i64,.int .i64,.int .i64],.list [.int .i64],.list [.int .i64],.int .i64,.list [.int .u8]],[(3,.full 0),(9,.sc (.list [.int .i64])),(10,.sc (.list [.int .i64])),(11,.full 1),(15,.full 2),(16,.ptr 3 0)],[.arr [.int .i64,.int .i64,.int .i64],.arr [.int .i64],.arr [.int .i64],.box [.full 4,.sc (.int .i64)],.arr [.int .u8]]⟩ .u))) (.seq .u (.seq (.seq .u (.blk (.loop ⟨[.list [.int .i64],.list [.int .i64],.int .i64,.int .i64,.list [.int .i64,.int .i64,.int .i64],.list [.int .i64],.int .i64,.list [.int .i64],.list [.int .i64],.list [.int .u8]],[(3,.full 0),(9,.sc (.list [.int .i64])),(10,.sc (.list [.int .i64])),(15,.full 1),(16,.ptr 2 0),(19,.full 3),(135,.full 4),(136,.sc (.int .i64)),(137,.sc (.int .i64))],[.arr [.int .i64,.int .i64,.int .i64],.arr [.int .i64],.box [.full 5,.sc (.int .i64)],.arr [.int .i64],.arr [.int .i64],.arr [.int .u8]]⟩ (fun ((lit4,dist4,t7,t8,list6,meta_2,o6,m,o7,o8):List Int×List Int×Int×Int×(List (Int×Int×Int))×List Int×Int×List Int×List Int×List Int)=>(t7-t8).toNat+1) 6 ⟨[.list [.int .i64],.list [.int .i64],.list [.int .i64,.int .i64,.int .i64],.int .i64,.list [.int .u8]],[(3,.full 0),(9,.sc (.list [.int .i64])),(10,.sc (.list [.int .i64])),(16,.ptr 1 0)],[.arr [.int .i64,.int .i64,.int .i64],.box [.full 2,.sc (.int .i64)],.arr [.int .u8]]⟩ .u))) .u)))))))))))))))))))))) Za2.S d=Za2.S.F d:=fun _=>by kernel_rfl
theorem Za2.sound:Zah Tryz.prog C0 179 Za2.S:=sE Za8 Za2.ev (Zai ⟨Zb2.sound,Zb6.sound,ZeX.sound,ZbP.sound,Zay.sound,Zcp.sound,ZbL.sound,Za0.sound,ZcE.sound,Zge.sound,trivial⟩) Tryz.func179
def Zba.S:ZaQ:=⟨0,[.sc .str],[],[.str],⟨[.str],.sc .str,[]⟩,
 fun (text:Str)=>Zba text⟩
theorem Zba.ev:∀d,Za7 C0 (hnd (tab [(177,ZdA.S),(178,ZdG.S),(179,Za2.S)])) Tryz.f133 (.seq .u (.seq .u (.seq (.seq .u (.blk (.loop ⟨[.str,.int .i64,.int .i64,.list [.str]],[(3,.sc .str),(12,.full 0),(13,.sc (.int .i64)),(14,.sc (.int .i64))],[.arr [.str]]⟩ (fun ((best,t,t1,o):Str×Int×Int×List Str)=>(t-t1).toNat+1) 0 ⟨[.str],[(3,.sc .str)],[]⟩ .u))) .u))) Zba.S d=Zba.S.F d:=fun _=>by kernel_rfl
theorem Zba.sound:Zah Tryz.prog C0 133 Zba.S:=sE Za8 Zba.ev (Zai ⟨ZdA.sound,ZdG.sound,Za2.sound,trivial⟩) Tryz.func133
def ZbY.S:ZaQ:=⟨1,[.ptr 0 0,.full 1],[.box [.sc .str,.sc (.int .i64),.sc .bool],.arr [.int .u8]],[.str,.int .i64,.bool,.list [.int .u8]],⟨[.str,.int .i64,.bool,.list [.int .u8]],.full 1,[.box [.sc .str,.sc (.int .i64),.sc .bool],.arr [.int .u8]]⟩,
 fun ((s,at_,bad,out):Str×Int×Bool×List Int)=>ZbY s at_ bad out⟩
theorem ZbY.ev:∀d,Za7 C0 (hnd (tab [(170,Ze2.S),(175,Zee.S)])) Tryz.f171 (.seq .u (.seq .u (.seq .u (.join ⟨[.int .i64,.str,.int .i64,.bool,.list [.int .u8]],[(0,.ptr 0 0),(1,.full 1),(5,.sc (.int .i64))],[.box [.sc .str,.sc (.int .i64),.sc .bool],.arr [.int .u8]]⟩ .u (.seq (.seq .u (.blk (.loop ⟨[.int .i64,.int .i64,.str,.int .i64,.bool,.list [.int .u8]],[(0,.ptr 0 0),(1,.full 1),(5,.sc (.int .i64)),(7,.sc (.int .i64))],[.box [.sc .str,.sc (.int .i64),.sc .bool],.arr [.int .u8]]⟩ (fun ((n1,k,o3,o4,o5,out2):Int×Int×Str×Int×Bool×List Int)=>(n1-k).toNat+1) 0 ⟨[.str,.int .i64,.bool,.list [.int .u8]],[(1,.full 1)],[.box [.sc .str,.sc (.int .i64),.sc .bool],.arr [.int .u8]]⟩ (.seq (.seq (.reg [.bool] [(35,.sc .bool)]) .u) .u)))) .u))))) ZbY.S d=ZbY.S.F d:=fun _=>by kernel_rfl
theorem ZbY.sound:Zah Tryz.prog C0 171 ZbY.S:=sE Za8 ZbY.ev (Zai ⟨Ze2.sound,Zee.sound,trivial⟩) Tryz.func171
end Ev
end
section
open Go Go.Proofs
set_option maxRecDepth 100000
namespace Ev
set_option maxHeartbeats 1000000
def Zaz.S:ZaQ:=⟨1,[.ptr 0 0],[.box [.sc .str,.sc (.int .i64),.sc .bool]],[.str,.int .i64,.bool],⟨[.list [.int .i64],.list [.int .i64],.str,.int .i64,.bool],.tup [.sc (.list [.int .i64]),.sc (.list [.int .i64])],[.box [.sc .str,.sc (.int .i64),.sc .bool]]⟩,
 fun ((s,at_,bad):Str×Int×Bool)=>Zaz s at_ bad⟩
theorem Zaz.ev:∀d,Za7 C0 (hnd (tab [(170,Ze2.S),(195,Zce.S),(196,Zcg.S),(197,Zbq.S)])) Tryz.f174 (.seq .u (.seq .u (.join ⟨[.int .i64,.int .i64,.int .i64,.str,.int .i64,.bool],[(0,.ptr 0 0),(4,.sc (.int .i64)),(5,.sc (.int .i64)),(6,.sc (.int .i64))],[.box [.sc .str,.sc (.int .i64),.sc .bool]]⟩ (.seq (.reg [.bool] [(29,.sc .bool)]) .u) (.seq .u (.seq (.seq .u (.blk (.loop ⟨[.int .i64,.int .i64,.list [.int .i64],.int .i64,.int .i64,.str,.int .i64,.bool,.list [.int .i64]],[(0,.ptr 0 0),(4,.sc (.int .i64)),(5,.sc (.int .i64)),(7,.full 1),(38,.sc (.list [.int .i64])),(39,.sc (.int .i64)),(40,.sc (.int .i64))],[.box [.sc .str,.sc (.int .i64),.sc .bool],.arr [.int .i64]]⟩ (fun ((lit1,dist1,t,t1,t2,o3,o4,o5,meta_):Int×Int×List Int×Int×Int×Str×Int×Bool×List Int)=>(t1-t2).toNat+1) 0 ⟨[.int .i64,.int .i64,.str,.int .i64,.bool,.list [.int .i64]],[(0,.ptr 0 0),(4,.sc (.int .i64)),(5,.sc (.int .i64)),(7,.full 1)],[.box [.sc .str,.sc (.int .i64),.sc .bool],.arr [.int .i64]]⟩ .u))) (.seq (.seq (.reg [.bool] [(58,.sc .bool)]) .u) (.seq .u (.seq .u (.seq (.blk (.loop ⟨[.int .i64,.int .i64,.str,.int .i64,.bool,.map [.int .i64,.int .i64] [.int .i64],.list [.int .i64]],[(0,.ptr 0 0),(4,.sc (.int .i64)),(5,.sc (.int .i64)),(10,.map 1),(11,.full 2)],[.box [.sc .str,.sc (.int .i64),.sc .bool],.map [.int .i64,.int .i64] [.int .i64],.arr [.int .i64]]⟩ (fun ((lit3,dist3,o9,o10,o11,o12,all):Int×Int×Str×Int×Bool×(List ((Int×Int)×Int))×List Int)=>((w64 (lit3+dist3))-(all.length:Int)).toNat+1) 2 ⟨[.int .i64,.int .i64,.str,.int .i64,.bool,.list [.int .i64]],[(0,.ptr 0 0),(4,.sc (.int .i64)),(5,.sc (.int .i64)),(11,.full 1)],[.box [.sc .str,.sc (.int .i64),.sc .bool],.arr [.int .i64]]⟩ (.seq (.seq (.reg [.bool] [(77,.sc .bool)]) .u) (.blk (.seq .u (.seq .u (.join ⟨[.int .i64,.int .i64,.int .i64,.int .i64,.str,.int .i64,.bool,.map [.int .i64,.int .i64] [.int .i64],.list [.int .i64]],[(0,.ptr 0 0),(4,.sc (.int .i64)),(5,.sc (.int .i64)),(10,.map 1),(11,.full 2),(13,.sc (.int .i64)),(14,.sc (.int .i64))],[.box [.sc .str,.sc (.int .i64),.sc .bool],.map [.int .i64,.int .i64] [.int .i64],.arr [.int .i64]]⟩ .u (.seq .u (.blk (.loop ⟨[.int .i64,.int .i64,.int .i64,.int .i64,.int .i64,.str,.int .i64,.bool,.map [.int .i64,.int .i64] [.int .i64],.list [.int .i64]],[(0,.ptr 0 0),(4,.sc (.int .i64)),(5,.sc (.int .i64)),(10,.map 1),(11,.full 2),(13,.sc (.int .i64)),(112,.sc (.int .i64)),(113,.sc (.int .i64))],[.box [.sc .str,.sc (.int .i64),.sc .bool],.map [.int .i64,.int .i64] [.int .i64],.arr [.int .i64]]⟩ (fun ((lit5,dist5,again_1,t3,t4,o17,o18,o19,o20,all2):Int×Int×Int×Int×Int×Str×Int×Bool×(List ((Int×Int)×Int))×List Int)=>(t3-t4).toNat+1) 5 ⟨[.int .i64,.int .i64,.str,.int .i64,.bool,.map [.int .i64,.int .i64] [.int .i64],.list [.int .i64]],[(0,.ptr 0 0),(4,.sc (.int .i64)),(5,.sc (.int .i64)),(10,.map 1),(11,.full 2)],[.box [.sc .str,.sc (.int .i64),.sc .bool],.map [.int .i64,.int .i64] [.int .i64],.arr [.int .i64]]⟩ .u)))))))))) (.seq (.seq (.reg [.bool] [(131,.sc .bool)]) .u) .u)))))))))) Zaz.S d=Zaz.S.F d:=fun _=>by kernel_rfl
theorem Zaz.sound:Zah Tryz.prog C0 174 Zaz.S:=sE Za8 Zaz.ev (Zai ⟨Ze2.sound,Zce.sound,Zcg.sound,Zbq.sound,trivial⟩) Tryz.func174
def Zcn.S:ZaQ:=⟨1,[.ptr 0 0,.full 1,.sc (.list [.int .i64]),.sc (.list [.int .i64])],[.box [.sc .str,.sc (.int .i64),.sc .bool],.arr [.int .u8]],[.list [.int .i64],.list [.int .i64],.str,.int .i64,.bool,.list [.int .u8]],⟨[.str,.int .i64,.bool,.list [.int .u8]],.full 1,[.box [.sc .str,.sc (.int .i64),.sc .bool],.arr [.int .u8]]⟩,
 fun ((lit,dist,s,at_,bad,out):List Int×List Int×Str×Int×Bool×List Int)=>Zcn lit dist s at_ bad out⟩
theorem Zcn.ev:∀d,Za7 C0 (hnd (tab [(170,Ze2.S),(195,Zce.S),(196,Zcg.S),(197,Zbq.S),(198,Zb2.S),(199,Zb6.S),(200,add.S)])) Tryz.f173 (.seq .u (.seq (.seq (.reg [.bool] [(29,.sc .bool)]) .u) (.seq .u (.seq (.blk (.loopS ⟨[.str,.int .i64,.bool,.list [.int .u8],.map [.int .i64,.int .i64] [.int .i64],.map [.int .i64,.int .i64] [.int .i64]],[(0,.ptr 0 0),(1,.full 1),(9,.map 2),(10,.map 3)],[.box [.sc .str,.sc (.int .i64),.sc .bool],.arr [.int .u8],.map [.int .i64,.int .i64] [.int .i64],.map [.int .i64,.int .i64] [.int .i64]]⟩ (fun ((o,o1,o2,out1,o3,o4):Str×Int×Bool×List Int×(List ((Int×Int)×Int))×List ((Int×Int)×Int))=>100000) 0 ⟨[.str,.int .i64,.bool,.list [.int .u8]],[(1,.full 1)],[.box [.sc .str,.sc (.int .i64),.sc .bool],.arr [.int .u8]]⟩ (.seq (.seq (.reg [.bool] [(47,.sc .bool)]) .u) (.blk (.seq .u (.seq (.blk (.seq (.reg [.bool] [(51,.sc .bool)]) .u)) (.seq (.cm [(1,[0]),(2,[0]),(3,[0]),(4,[0]),(5,[0])]) (.seq .u (.seq .u (.seq (.cm [(1,[0]),(2,[0]),(3,[0]),(4,[0])]) (.seq .u (.seq (.seq (.reg [.bool] [(129,.sc .bool)]) .u) .u)))))))))))) .u)))) Zcn.S d=Zcn.S.F d:=fun _=>by kernel_rfl
theorem Zcn.sound:Zah Tryz.prog C0 173 Zcn.S:=sE Za8 Zcn.ev (Zai ⟨Ze2.sound,Zce.sound,Zcg.sound,Zbq.sound,Zb2.sound,Zb6.sound,add.sound,trivial⟩) Tryz.func173
def Za6.S:ZaQ:=⟨1,[.ptr 0 0,.full 1,.sc (.list [.int .i64]),.sc (.list [.int .i64])],[.box [.sc .str,.sc (.int .i64),.sc .bool],.arr [.int .u8]],[.list [.int .i64],.list [.int .i64],.str,.int .i64,.bool,.list [.int .u8]],⟨[.str,.int .i64,.bool],.undef,[.box [.sc .str,.sc (.int .i64),.sc .bool]]⟩,
 fun ((lit,dist,s,at_,bad,out):List Int×List Int×Str×Int×Bool×List Int)=>Za6 lit dist s at_ bad out⟩
theorem Za6.ev:∀d,Za7 C0 (hnd (tab [(170,Ze2.S),(195,Zce.S),(196,Zcg.S),(197,Zbq.S),(198,Zb2.S),(199,Zb6.S),(200,add.S)])) Tryz.f173 (.seq .u (.seq (.seq (.reg [.bool] [(29,.sc .bool)]) .u) (.seq .u (.seq (.blk (.loopS ⟨[.str,.int .i64,.bool,.list [.int .u8],.map [.int .i64,.int .i64] [.int .i64],.map [.int .i64,.int .i64] [.int .i64]],[(0,.ptr 0 0),(1,.full 1),(9,.map 2),(10,.map 3)],[.box [.sc .str,.sc (.int .i64),.sc .bool],.arr [.int .u8],.map [.int .i64,.int .i64] [.int .i64],.map [.int .i64,.int .i64] [.int .i64]]⟩ (fun ((o,o1,o2,out1,o3,o4):Str×Int×Bool×List Int×(List ((Int×Int)×Int))×List ((Int×Int)×Int))=>100000) 0 ⟨[.str,.int .i64,.bool,.list [.int .u8]],[(1,.full 1)],[.box [.sc .str,.sc (.int .i64),.sc .bool],.arr [.int .u8]]⟩ (.seq (.seq (.reg [.bool] [(47,.sc .bool)]) .u) (.blk (.seq .u (.seq (.blk (.seq (.reg [.bool] [(51,.sc .bool)]) .u)) (.seq (.cm [(1,[0]),(2,[0]),(3,[0]),(4,[0]),(5,[0])]) (.seq .u (.seq .u (.seq (.cm [(1,[0]),(2,[0]),(3,[0]),(4,[0])]) (.seq .u (.seq (.seq (.reg [.bool] [(129,.sc .bool)]) .u) .u)))))))))))) .u)))) Za6.S d=Za6.S.F d:=fun _=>by kernel_rfl
theorem Za6.sound:Zah Tryz.prog C0 173 Za6.S:=sE Za8 Za6.ev (Zai ⟨Ze2.sound,Zce.sound,Zcg.sound,Zbq.sound,Zb2.sound,Zb6.sound,add.sound,trivial⟩) Tryz.func173
def Zbt.S:ZaQ:=⟨0,[.sc .str],[],[.str],⟨[.str,.int .i64,.bool],.tup [.sc .str,.sc (.int .i64),.sc .bool],[]⟩,
 fun (text:Str)=>Zbt text⟩
theorem Zbt.ev:∀d,Za7 C0 (hnd (tab [(169,ZiJ.S),(170,Ze2.S),(171,ZbY.S),(172,Zbs.S),(173,Zcn.S),(173,Za6.S),(174,Zaz.S),(175,Zee.S)])) Tryz.f130 (.seq .u (.seq .u (.seq .u (.seq .u (.seq (.seq .u (.blk (.loopS ⟨[.bool,.str,.int .i64,.bool,.list [.int .u8]],[(5,.ptr 0 0),(6,.full 1),(7,.sc .bool)],[.box [.sc .str,.sc (.int .i64),.sc .bool],.arr [.int .u8]]⟩ (fun ((last,o,o1,o2,out):Bool×Str×Int×Bool×List Int)=>100000) 0 ⟨[.str,.int .i64,.bool,.list [.int .u8]],[(5,.ptr 0 0),(6,.full 1)],[.box [.sc .str,.sc (.int .i64),.sc .bool],.arr [.int .u8]]⟩ .u))) .u))))) Zbt.S d=Zbt.S.F d:=fun _=>by kernel_rfl
theorem Zbt.sound:Zah Tryz.prog C0 130 Zbt.S:=sE Za8 Zbt.ev (Zai ⟨ZiJ.sound,Ze2.sound,ZbY.sound,Zbs.sound,Zcn.sound,Za6.sound,Zaz.sound,Zee.sound,trivial⟩) Tryz.func130
def ZoG.S:ZaQ:=⟨0,[.sc (.int .i64),.sc (.int .i64)],[],[.int .i64,.int .i64],⟨[.int .i64],.sc (.int .i64),[]⟩,
 fun ((year,month):Int×Int)=>ZoG year month⟩
theorem ZoG.ev:∀d,Za7 C0 (hnd (tab [])) Tryz.f147 (.seq .u (.seq (.seq .u (.blk (.join ⟨[.int .i64,.int .i64,.bool],[(0,.sc (.int .i64)),(5,.sc (.int .i64)),(6,.sc .bool)],[]⟩ .u (.cond .u (.seq .u (.cond (.seq (.seq (.reg [.bool] [(25,.sc .bool)]) .u) .u) .u)))))) .u)) ZoG.S d=ZoG.S.F d:=fun _=>by kernel_rfl
theorem ZoG.sound:Zah Tryz.prog C0 147 ZoG.S:=sE Za8 ZoG.ev (Zai trivial) Tryz.func147
def ZcI.S:ZaQ:=⟨0,[.agg [.sc (.int .i64),.sc (.int .i64),.sc (.int .i64),.sc (.int .i64),.sc (.int .i64),.sc (.int .i64)]],[],[.int .i64,.int .i64,.int .i64,.int .i64,.int .i64,.int .i64],⟨[.bool],.sc .bool,[]⟩,
 fun ((y,mo,d,h,mi,sec):Int×Int×Int×Int×Int×Int)=>ZcI y mo d h mi sec⟩
theorem ZcI.ev:∀d,Za7 C0 (hnd (tab [(146,ZbC.S),(147,ZoG.S)])) Tryz.f104 (.seq .u (.seq (.reg [.bool] [(2,.sc .bool)]) .u)) ZcI.S d=ZcI.S.F d:=fun _=>by kernel_rfl
theorem ZcI.sound:Zah Tryz.prog C0 104 ZcI.S:=sE Za8 ZcI.ev (Zai ⟨ZbC.sound,ZoG.sound,trivial⟩) Tryz.func104
def Zcr.S:ZaQ:=⟨0,[.agg [.sc (.int .i64),.sc (.int .i64),.sc (.int .i64),.sc (.int .i64),.sc (.int .i64),.sc (.int .i64)]],[],[.int .i64,.int .i64,.int .i64,.int .i64,.int .i64,.int .i64],⟨[.int .i64],.sc (.int .i64),[]⟩,
 fun ((y,mo,d,h,mi,sec):Int×Int×Int×Int×Int×Int)=>Zcr y mo d h mi sec⟩
theorem Zcr.ev:∀d,Za7 C0 (hnd (tab [(104,ZcI.S)])) Tryz.f168 .u Zcr.S d=Zcr.S.F d:=fun _=>by kernel_rfl
theorem Zcr.sound:Zah Tryz.prog C0 168 Zcr.S:=sE Za8 Zcr.ev (Zai ⟨ZcI.sound,trivial⟩) Tryz.func168
def ZdB.S:ZaQ:=⟨0,[.sc (.int .i64)],[],[.int .i64],⟨[.int .i64,.int .i64,.int .i64,.int .i64,.int .i64,.int .i64,.bool],.tup [.agg [.sc (.int .i64),.sc (.int .i64),.sc (.int .i64),.sc (.int .i64),.sc (.int .i64),.sc (.int .i64)],.sc .bool],[]⟩,
 fun (n:Int)=>ZdB n⟩
theorem ZdB.ev:∀d,Za7 C0 (hnd (tab [(168,Zcr.S)])) Tryz.f129 .u ZdB.S d=ZdB.S.F d:=fun _=>by kernel_rfl
theorem ZdB.sound:Zah Tryz.prog C0 129 ZdB.S:=sE Za8 ZdB.ev (Zai ⟨Zcr.sound,trivial⟩) Tryz.func129
def Zcw.S:ZaQ:=⟨0,[.agg [.sc .str,.sc (.int .i64),.sc (.int .i64),.sc (.int .i64),.sc (.int .i64),.sc (.int .i64),.sc (.int .i64),.sc .str]],[],[.str,.int .i64,.int .i64,.int .i64,.int .i64,.int .i64,.int .i64,.str],⟨[.bool],.sc .bool,[]⟩,
 fun ((name,y,mo,d,h,mi,sec,text):Str×Int×Int×Int×Int×Int×Int×Str)=>Zcw name y mo d h mi sec text⟩
theorem Zcw.ev:∀d,Za7 C0 (hnd (tab [(91,ZaG.S),(104,ZcI.S)])) Tryz.f99 (.seq .u (.seq (.reg [.bool] [(2,.sc .bool)]) .u)) Zcw.S d=Zcw.S.F d:=fun _=>by kernel_rfl
theorem Zcw.sound:Zah Tryz.prog C0 99 Zcw.S:=sE Za8 Zcw.ev (Zai ⟨ZaG.sound,ZcI.sound,trivial⟩) Tryz.func99
def ZbE.S:ZaQ:=⟨0,[.sc (.int .i64),.sc (.int .i64)],[],[.int .i64,.int .i64],⟨[.str],.sc .str,[]⟩,
 fun ((n,bytes):Int×Int)=>ZbE n bytes⟩
theorem ZbE.ev:∀d,Za7 C0 (hnd (tab [])) Tryz.f132 (.seq .u (.seq .u (.seq (.seq .u (.blk (.loop ⟨[.int .i64,.int .i64,.int .i64,.list [.int .u8]],[(0,.sc (.int .i64)),(5,.full 0),(7,.sc (.int .i64)),(8,.sc (.int .i64))],[.arr [.int .u8]]⟩ (fun ((n1,t,t1,out):Int×Int×Int×List Int)=>(t-t1).toNat+1) 0 ⟨[.list [.int .u8]],[(5,.full 0)],[.arr [.int .u8]]⟩ .u))) .u))) ZbE.S d=ZbE.S.F d:=fun _=>by kernel_rfl
theorem ZbE.sound:Zah Tryz.prog C0 132 ZbE.S:=sE Za8 ZbE.ev (Zai trivial) Tryz.func132
def Zbc.S:ZaQ:=⟨0,[.sc .str,.sc (.int .i64),.sc (.int .i64)],[],[.str,.int .i64,.int .i64],⟨[.int .i64],.sc (.int .i64),[]⟩,
 fun ((s,at_,bytes):Str×Int×Int)=>Zbc s at_ bytes⟩
theorem Zbc.ev:∀d,Za7 C0 (hnd (tab [])) Tryz.f128 (.seq .u (.seq .u (.seq (.seq .u (.blk (.loop ⟨[.str,.int .i64,.int .i64,.int .i64],[(0,.sc .str),(1,.sc (.int .i64)),(7,.sc (.int .i64)),(8,.sc (.int .i64))],[]⟩ (fun ((s1,at_1,n,k):Str×Int×Int×Int)=>(k-0).toNat+2) 0 ⟨[.int .i64],[(7,.sc (.int .i64))],[]⟩ .u))) .u))) Zbc.S d=Zbc.S.F d:=fun _=>by kernel_rfl
theorem Zbc.sound:Zah Tryz.prog C0 128 Zbc.S:=sE Za8 Zbc.ev (Zai trivial) Tryz.func128
def Zd1.S:ZaQ:=⟨0,[.agg [.sc .str,.sc (.int .i64),.sc (.int .i64),.sc (.int .i64),.sc (.int .i64),.sc (.int .i64),.sc (.int .i64),.sc .str],.sc (.int .i64),.sc (.int .i64)],[],[.str,.int .i64,.int .i64,.int .i64,.int .i64,.int .i64,.int .i64,.str,.int .i64,.int .i64],⟨[.str],.sc .str,[]⟩,
 fun ((name,y,mo,d,h,mi,sec,text,method,packed):Str×Int×Int×Int×Int×Int×Int×Str×Int×Int)=>Zd1 name y mo d h mi sec text method packed⟩
theorem Zd1.ev:∀d,Za7 C0 (hnd (tab [(132,ZbE.S),(168,Zcr.S),(176,crc.S)])) Tryz.f131 .u Zd1.S d=Zd1.S.F d:=fun _=>by kernel_rfl
theorem Zd1.sound:Zah Tryz.prog C0 131 Zd1.S:=sE Za8 Zd1.ev (Zai ⟨ZbE.sound,Zcr.sound,crc.sound,trivial⟩) Tryz.func131
def ZdC.S:ZaQ:=⟨0,[.agg [.sc .str,.sc (.int .i64),.sc (.int .i64),.sc (.int .i64),.sc (.int .i64),.sc (.int .i64),.sc (.int .i64),.sc .str]],[],[.str,.int .i64,.int .i64,.int .i64,.int .i64,.int .i64,.int .i64,.str],⟨[.str],.sc .str,[]⟩,
 fun ((name,y,mo,d,h,mi,sec,text):Str×Int×Int×Int×Int×Int×Int×Str)=>ZdC name y mo d h mi sec text⟩
theorem ZdC.ev:∀d,Za7 C0 (hnd (tab [(99,Zcw.S),(131,Zd1.S),(133,Zba.S)])) Tryz.f80 .u ZdC.S d=ZdC.S.F d:=fun _=>by kernel_rfl
theorem ZdC.sound:Zah Tryz.prog C0 80 ZdC.S:=sE Za8 ZdC.ev (Zai ⟨Zcw.sound,Zd1.sound,Zba.sound,trivial⟩) Tryz.func80
def ZdD.S:ZaQ:=⟨0,[.sc .str],[],[.str],⟨[.str,.int .i64,.int .i64,.int .i64,.int .i64,.int .i64,.int .i64,.str,.int .i64,.bool],.tup [.agg [.sc .str,.sc (.int .i64),.sc (.int .i64),.sc (.int .i64),.sc (.int .i64),.sc (.int .i64),.sc (.int .i64),.sc .str],.sc (.int .i64),.sc .bool],[]⟩,
 fun (text:Str)=>ZdD text⟩
theorem ZdD.ev:∀d,Za7 C0 (hnd (tab [(99,Zcw.S),(128,Zbc.S),(129,ZdB.S),(130,Zbt.S),(131,Zd1.S)])) Tryz.f76 (.seq .u (.seq .u (.seq .u (.seq .u (.seq (.seq (.reg [.bool] [(36,.sc .bool)]) .u) (.seq .u (.seq .u (.joinS ⟨[.str,.int .i64,.int .i64,.int .i64,.str,.int .i64,.int .i64,.int .i64,.int .i64,.int .i64,.int .i64,.str,.str,.int .i64,.int .i64,.int .i64,.int .i64,.int .i64,.int .i64,.str],[(0,.sc .str),(2,.ptr 0 0),(5,.sc (.int .i64)),(6,.sc (.int .i64)),(7,.sc (.int .i64)),(9,.ptr 1 0)],[.box [.sc .str,.sc (.int .i64),.sc (.int .i64),.sc (.int .i64),.sc (.int .i64),.sc (.int .i64),.sc (.int .i64),.sc .str],.box [.sc .str,.sc (.int .i64),.sc (.int .i64),.sc (.int .i64),.sc (.int .i64),.sc (.int .i64),.sc (.int .i64),.sc .str]]⟩ (.seq .u (.blk (.seq .u (.cond .u (.seq .u (.cond (.seq .u (.seq (.seq (.reg [.bool] [(74,.sc .bool)]) .u) .u)) .u)))))) (.seq (.seq (.reg [.bool] [(89,.sc .bool)]) .u) .u))))))))) ZdD.S d=ZdD.S.F d:=fun _=>by kernel_rfl
theorem ZdD.sound:Zah Tryz.prog C0 76 ZdD.S:=sE Za8 ZdD.ev (Zai ⟨Zcw.sound,Zbc.sound,ZdB.sound,Zbt.sound,Zd1.sound,trivial⟩) Tryz.func76
def joinS.S:ZaQ:=ZtP
theorem joinS.sound:Zah Tryz.prog C0 81 joinS.S:=Zu7 Tryz.lays156 Tryz.Builder_Extra_156 Tryz.func81 (by kernel_rfl) (by kernel_rfl)
def ZbT.S:ZaQ:=⟨0,[.sc (.list [.str,.int .i64,.int .i64,.int .i64,.int .i64,.int .i64,.int .i64,.str])],[],[.list [.str,.int .i64,.int .i64,.int .i64,.int .i64,.int .i64,.int .i64,.str]],⟨[.list [.str]],.full 0,[.arr [.str]]⟩,
 fun (list:List (Str×Int×Int×Int×Int×Int×Int×Str))=>ZbT list⟩
theorem ZbT.ev:∀d,Za7 C0 (hnd (tab [])) Tryz.f93 (.seq .u (.seq .u (.seq (.seq .u (.blk (.loop ⟨[.list [.str,.int .i64,.int .i64,.int .i64,.int .i64,.int .i64,.int .i64,.str],.int .i64,.int .i64,.list [.str]],[(3,.full 0),(7,.sc (.list [.str,.int .i64,.int .i64,.int .i64,.int .i64,.int .i64,.int .i64,.str])),(8,.sc (.int .i64)),(9,.sc (.int .i64))],[.arr [.str]]⟩ (fun ((t,t1,t2,out):(List (Str×Int×Int×Int×Int×Int×Int×Str))×Int×Int×List Str)=>(t1-t2).toNat+1) 0 ⟨[.list [.str]],[(3,.full 0)],[.arr [.str]]⟩ .u))) .u))) ZbT.S d=ZbT.S.F d:=fun _=>by kernel_rfl
theorem ZbT.sound:Zah Tryz.prog C0 93 ZbT.S:=sE Za8 ZbT.ev (Zai trivial) Tryz.func93
def Zd3.S:ZaQ:=⟨0,[.sc (.list [.str,.int .i64,.int .i64,.int .i64,.int .i64,.int .i64,.int .i64,.str])],[],[.list [.str,.int .i64,.int .i64,.int .i64,.int .i64,.int .i64,.int .i64,.str]],⟨[.bool],.sc .bool,[]⟩,
 fun (list:List (Str×Int×Int×Int×Int×Int×Int×Str))=>Zd3 list⟩
theorem Zd3.ev:∀d,Za7 C0 (hnd (tab [(92,Zc0.S),(93,ZbT.S),(99,Zcw.S)])) Tryz.f77 (.seq .u (.seq (.seq .u (.blk (.loopS ⟨[.list [.str,.int .i64,.int .i64,.int .i64,.int .i64,.int .i64,.int .i64,.str],.list [.str,.int .i64,.int .i64,.int .i64,.int .i64,.int .i64,.int .i64,.str],.int .i64,.int .i64],[(0,.sc (.list [.str,.int .i64,.int .i64,.int .i64,.int .i64,.int .i64,.int .i64,.str])),(5,.sc (.list [.str,.int .i64,.int .i64,.int .i64,.int .i64,.int .i64,.int .i64,.str])),(6,.sc (.int .i64)),(7,.sc (.int .i64))],[]⟩ (fun ((list1,t,t1,t2):(List (Str×Int×Int×Int×Int×Int×Int×Str))×(List (Str×Int×Int×Int×Int×Int×Int×Str))×Int×Int)=>(t1-t2).toNat+1) 0 ⟨[.list [.str,.int .i64,.int .i64,.int .i64,.int .i64,.int .i64,.int .i64,.str]],[(0,.sc (.list [.str,.int .i64,.int .i64,.int .i64,.int .i64,.int .i64,.int .i64,.str]))],[]⟩ .u))) .u)) Zd3.S d=Zd3.S.F d:=fun _=>by kernel_rfl
theorem Zd3.sound:Zah Tryz.prog C0 77 Zd3.S:=sE Za8 Zd3.ev (Zai ⟨Zc0.sound,ZbT.sound,Zcw.sound,trivial⟩) Tryz.func77
def ZbM.S:ZaQ:=⟨0,[.sc (.list [.str])],[],[.list [.str]],⟨[.str],.sc .str,[]⟩,
 fun (locals:List Str)=>ZbM locals⟩
theorem ZbM.ev:∀d,Za7 C0 (hnd (tab [(128,Zbc.S),(132,ZbE.S)])) Tryz.f78 (.seq .u (.seq .u (.seq .u (.seq (.seq .u (.blk (.loop ⟨[.list [.str],.str,.int .i64,.list [.str],.int .i64,.int .i64],[(0,.sc (.list [.str])),(3,.sc .str),(4,.sc (.int .i64)),(9,.sc (.list [.str])),(10,.sc (.int .i64)),(11,.sc (.int .i64))],[]⟩ (fun ((locals1,heads,at_,t,t1,t2):List Str×Str×Int×List Str×Int×Int)=>(t1-t2).toNat+1) 0 ⟨[.list [.str],.str,.int .i64],[(0,.sc (.list [.str])),(3,.sc .str),(4,.sc (.int .i64))],[]⟩ .u))) .u)))) ZbM.S d=ZbM.S.F d:=fun _=>by kernel_rfl
theorem ZbM.sound:Zah Tryz.prog C0 78 ZbM.S:=sE Za8 ZbM.ev (Zai ⟨Zbc.sound,ZbE.sound,trivial⟩) Tryz.func78
def Zda.S:ZaQ:=⟨0,[.sc (.list [.str,.int .i64,.int .i64,.int .i64,.int .i64,.int .i64,.int .i64,.str])],[],[.list [.str,.int .i64,.int .i64,.int .i64,.int .i64,.int .i64,.int .i64,.str]],⟨[.str],.sc .str,[]⟩,
 fun (list:List (Str×Int×Int×Int×Int×Int×Int×Str))=>Zda list⟩
theorem Zda.ev:∀d,Za7 C0 (hnd (tab [(77,Zd3.S),(78,ZbM.S),(80,ZdC.S),(81,joinS.S)])) Tryz.f27 (.seq .u (.seq .u (.seq .u (.seq (.seq .u (.blk (.loop ⟨[.list [.str,.int .i64,.int .i64,.int .i64,.int .i64,.int .i64,.int .i64,.str],.int .i64,.int .i64,.list [.str]],[(3,.full 0),(10,.sc (.list [.str,.int .i64,.int .i64,.int .i64,.int .i64,.int .i64,.int .i64,.str])),(11,.sc (.int .i64)),(12,.sc (.int .i64))],[.arr [.str]]⟩ (fun ((t,t1,t2,locals):(List (Str×Int×Int×Int×Int×Int×Int×Str))×Int×Int×List Str)=>(t1-t2).toNat+1) 0 ⟨[.list [.str]],[(3,.full 0)],[.arr [.str]]⟩ .u))) .u)))) Zda.S d=Zda.S.F d:=fun _=>by kernel_rfl
theorem Zda.sound:Zah Tryz.prog C0 27 Zda.S:=sE Za8 Zda.ev (Zai ⟨Zd3.sound,ZbM.sound,ZdC.sound,joinS.sound,trivial⟩) Tryz.func27
def Zck.S:ZaQ:=⟨0,[.sc .str],[],[.str],⟨[.bool,.list [.str,.int .i64,.int .i64,.int .i64,.int .i64,.int .i64,.int .i64,.str]],.tup [.full 0,.sc .bool],[.arr [.str,.int .i64,.int .i64,.int .i64,.int .i64,.int .i64,.int .i64,.str]]⟩,
 fun (text:Str)=>Zck text⟩
theorem Zck.ev:∀d,Za7 C0 (hnd (tab [(76,ZdD.S),(77,Zd3.S),(78,ZbM.S)])) Tryz.f25 (.seq .u (.seq .u (.seq .u (.seq .u (.seq (.blk (.loop ⟨[.str,.list [.str,.int .i64,.int .i64,.int .i64,.int .i64,.int .i64,.int .i64,.str],.list [.str]],[(4,.full 0),(5,.full 1),(6,.sc .str)],[.arr [.str,.int .i64,.int .i64,.int .i64,.int .i64,.int .i64,.int .i64,.str],.arr [.str]]⟩ (fun ((rest,out,locals):Str×(List (Str×Int×Int×Int×Int×Int×Int×Str))×List Str)=>(6-(out.length:Int)).toNat+1) 0 ⟨[.str,.list [.str,.int .i64,.int .i64,.int .i64,.int .i64,.int .i64,.int .i64,.str],.list [.str]],[(4,.full 0),(5,.full 1),(6,.sc .str)],[.arr [.str,.int .i64,.int .i64,.int .i64,.int .i64,.int .i64,.int .i64,.str],.arr [.str]]⟩ .u)) (.seq (.seq (.reg [.bool] [(45,.sc .bool)]) .u) .u)))))) Zck.S d=Zck.S.F d:=fun _=>by kernel_rfl
theorem Zck.sound:Zah Tryz.prog C0 25 Zck.S:=sE Za8 Zck.ev (Zai ⟨ZdD.sound,Zd3.sound,ZbM.sound,trivial⟩) Tryz.func25
def Zdy.S:ZaQ:=⟨0,[.sc .str],[],[.str],⟨[.list [.str]],.full 0,[.arr [.str]]⟩,
 fun (text:Str)=>Zdy text⟩
theorem Zdy.ev:∀d,Za7 C0 (hnd (tab [(25,Zck.S),(93,ZbT.S)])) Tryz.f36 .u Zdy.S d=Zdy.S.F d:=fun _=>by kernel_rfl
theorem Zdy.sound:Zah Tryz.prog C0 36 Zdy.S:=sE Za8 Zdy.ev (Zai ⟨Zck.sound,ZbT.sound,trivial⟩) Tryz.func36
end Ev
end
section
open Go Go.Proofs
set_option maxRecDepth 100000
namespace Ev
set_option maxHeartbeats 1000000
def Zdb.S:ZaQ:=⟨1,[.agg [.sc .str,.sc .str],.ptr 0 0],[.box [.sc .str,.sc .str]],[.str,.str,.str,.str],⟨[.bool,.str,.str],.sc .bool,[.box [.sc .str,.sc .str]]⟩,
 fun ((xp,xt,path,text):Str×Str×Str×Str)=>Zdb xp xt path text⟩
theorem Zdb.ev:∀d,Za7 C0 (hnd (tab [])) Tryz.f62 .u Zdb.S d=Zdb.S.F d:=fun _=>by kernel_rfl
theorem Zdb.sound:Zah Tryz.prog C0 62 Zdb.S:=sE Za8 Zdb.ev (Zai trivial) Tryz.func62
def Za4.S:ZaQ:=⟨1,[.sc (.list [.str,.str]),.fn 62 [] [.ptr 0 0]],[.box [.sc .str,.sc .str]],[.list [.str,.str],.str,.str],⟨[.int .i64,.str,.str],.sc (.int .i64),[.box [.sc .str,.sc .str]]⟩,
 fun ((list,path,text):(List (Str×Str))×Str×Str)=>Za4 list path text⟩
theorem Za4.ev:∀d,Za7 C0 (hnd (tab [(62,Zdb.S)])) Tryz.f61 (.seq .u (.seq (.seq .u (.blk (.loopS ⟨[.list [.str,.str],.int .i64,.int .i64,.str,.str],[(0,.sc (.list [.str,.str])),(1,.fn 62 [] [.ptr 0 0]),(7,.sc (.int .i64)),(8,.sc (.int .i64))],[.box [.sc .str,.sc .str]]⟩ (fun ((s,t,t1,o,o1):(List (Str×Str))×Int×Int×Str×Str)=>(t-t1).toNat+1) 0 ⟨[.str,.str],[],[.box [.sc .str,.sc .str]]⟩ .u))) .u)) Za4.S d=Za4.S.F d:=fun _=>by kernel_rfl
theorem Za4.sound:Zah Tryz.prog C0 61 Za4.S:=sE Za8 Za4.ev (Zai ⟨Zdb.sound,trivial⟩) Tryz.func61
def Zqg.S:ZaQ:=⟨1,[.full 0,.fn 64 [] []],[.arr [.str,.str]],[.list [.str,.str]],⟨[.list [.str,.str]],.tup [],[.arr [.str,.str]]⟩,fun (list:List (Str×Str))=>Zqf list⟩
theorem Zqg.sound:Zah Tryz.prog C0 63 Zqg.S:=Zux Tryz.laysSort Tryz.isAgg61 Tryz.sizeOf61 (enters_of Tryz.func64 (by kernel_rfl) rfl) (hc_of Zvk) Tryz.func63 (by kernel_rfl) (by kernel_rfl)
def ZaT.S:ZaQ:=⟨0,[.sc (.list [.str,.str]),.sc .str],[],[.list [.str,.str],.str],⟨[.int .i64,.list [.str,.str]],.tup [.full 0,.sc (.int .i64)],[.arr [.str,.str]]⟩,
 fun ((t,text):(List (Str×Str))×Str)=>ZaT t text⟩
theorem ZaT.ev:∀d,Za7 C0 (hnd (tab [(25,Zck.S),(47,Zau.S),(61,Za4.S),(63,Zqg.S)])) Tryz.f18 (.seq .u (.seq .u (.seq (.seq (.reg [.bool] [(24,.sc .bool)]) .u) (.seq .u (.seq (.seq .u (.blk (.loop ⟨[.list [.str,.str],.int .i64,.int .i64,.list [.str,.str],.list [.str,.int .i64,.int .i64,.int .i64,.int .i64,.int .i64,.int .i64,.str]],[(0,.sc (.list [.str,.str])),(8,.full 0),(29,.full 1),(30,.sc (.int .i64)),(31,.sc (.int .i64))],[.arr [.str,.str],.arr [.str,.int .i64,.int .i64,.int .i64,.int .i64,.int .i64,.int .i64,.str]]⟩ (fun ((t1,t2,t3,out,o):(List (Str×Str))×Int×Int×(List (Str×Str))×List (Str×Int×Int×Int×Int×Int×Int×Str))=>(t2-t3).toNat+1) 0 ⟨[.list [.str,.str],.list [.str,.str]],[(0,.sc (.list [.str,.str])),(8,.full 0)],[.arr [.str,.str]]⟩ .u))) .u))))) ZaT.S d=ZaT.S.F d:=fun _=>by kernel_rfl
theorem ZaT.sound:Zah Tryz.prog C0 18 ZaT.S:=sE Za8 ZaT.ev (Zai ⟨Zck.sound,Zau.sound,Za4.sound,Zqg.sound,trivial⟩) Tryz.func18
def ZbQ.S:ZaQ:=⟨0,[.sc (.list [.str,.str]),.sc .str,.agg [.sc (.int .i64),.sc (.int .i64),.sc (.int .i64),.sc (.int .i64),.sc (.int .i64),.sc (.int .i64)]],[],[.list [.str,.str],.str,.int .i64,.int .i64,.int .i64,.int .i64,.int .i64,.int .i64],⟨[.str,.int .i64],.tup [.sc .str,.sc (.int .i64)],[]⟩,
 fun ((t,place,y,mo,d,h,mi,sec):(List (Str×Str))×Str×Int×Int×Int×Int×Int×Int)=>ZbQ t place y mo d h mi sec⟩
theorem ZbQ.ev:∀d,Za7 C0 (hnd (tab [(27,Zda.S),(47,Zau.S),(91,ZaG.S),(104,ZcI.S),(105,ZbU.S)])) Tryz.f43 (.seq .u (.seq (.seq (.reg [.bool] [(27,.sc .bool)]) .u) (.seq .u (.seq (.seq .u (.blk (.loop ⟨[.str,.list [.str,.str],.int .i64,.int .i64,.int .i64,.int .i64,.int .i64,.int .i64,.int .i64,.int .i64,.list [.str,.int .i64,.int .i64,.int .i64,.int .i64,.int .i64,.int .i64,.str]],[(1,.sc .str),(5,.ptr 0 0),(8,.full 1),(29,.sc (.list [.str,.str])),(30,.sc (.int .i64)),(31,.sc (.int .i64))],[.box [.sc (.int .i64),.sc (.int .i64),.sc (.int .i64),.sc (.int .i64),.sc (.int .i64),.sc (.int .i64)],.arr [.str,.int .i64,.int .i64,.int .i64,.int .i64,.int .i64,.int .i64,.str]]⟩ (fun ((place1,t1,t2,t3,o,o1,o2,o3,o4,o5,list):Str×(List (Str×Str))×Int×Int×Int×Int×Int×Int×Int×Int×List (Str×Int×Int×Int×Int×Int×Int×Str))=>(t2-t3).toNat+1) 0 ⟨[.list [.str,.int .i64,.int .i64,.int .i64,.int .i64,.int .i64,.int .i64,.str]],[(8,.full 0)],[.arr [.str,.int .i64,.int .i64,.int .i64,.int .i64,.int .i64,.int .i64,.str]]⟩ (.seq .u (.seq .u (.seq (.blk (.seq .u (.seq (.reg [.bool] [(49,.sc .bool)]) .u))) .u)))))) .u)))) ZbQ.S d=ZbQ.S.F d:=fun _=>by kernel_rfl
theorem ZbQ.sound:Zah Tryz.prog C0 43 ZbQ.S:=sE Za8 ZbQ.ev (Zai ⟨Zda.sound,Zau.sound,ZaG.sound,ZcI.sound,ZbU.sound,trivial⟩) Tryz.func43
def Zgn.S:ZaQ:=⟨0,[.sc (.int .i64)],[],[.int .i64],⟨[.str],.sc .str,[]⟩,
 fun (n:Int)=>Zgn n⟩
def Zgn.SF (k_:Nat):ZaQ:=⟨0,[.sc (.int .i64)],[],[.int .i64],⟨[.str],.sc .str,[]⟩,
 fun (n:Int)=>ZtM k_ n⟩
theorem Zgn.ev (k_:Nat):∀d,Za7 C0 (hnd (tab [(151,Zgn.SF k_)])) Tryz.f151 .u (Zgn.SF (k_+1)) d=(Zgn.SF (k_+1)).F d:=fun _=>by kernel_rfl
theorem Zgn.soundF:∀k_:Nat,Zah Tryz.prog C0 151 (Zgn.SF k_)
 | 0=>⟨rfl,fun _ _ h=>by cases h⟩
 | k_+1=>Zac Za8 (Zai (l:=[(151,Zgn.SF k_)]) ⟨Zgn.soundF k_,trivial⟩) Tryz.func151 (by kernel_rfl) (by kernel_rfl) (by kernel_rfl) (Zgn.ev k_)
theorem Zgn.sound:Zah Tryz.prog C0 151 Zgn.S:=Zgn.soundF 30
def ZcQ.S:ZaQ:=⟨0,[.sc (.int .i64)],[],[.int .i64],⟨[.int .i64],.sc (.int .i64),[]⟩,
 fun (n:Int)=>ZcQ n⟩
theorem ZcQ.ev:∀d,Za7 C0 (hnd (tab [])) Tryz.f263 (.seq .u (.seq .u (.seq (.blk (.loop ⟨[.int .i64,.int .i64],[(0,.sc (.int .i64)),(3,.sc (.int .i64))],[]⟩ (fun ((n1,out):Int×Int)=>(n1-0).toNat+1) 0 ⟨[.int .i64],[(3,.sc (.int .i64))],[]⟩ .u)) .u))) ZcQ.S d=ZcQ.S.F d:=fun _=>by kernel_rfl
theorem ZcQ.sound:Zah Tryz.prog C0 263 ZcQ.S:=sE Za8 ZcQ.ev (Zai trivial) Tryz.func263
def Zeb.S:ZaQ:=⟨1,[.ptr 0 0,.sc (.int .i64),.sc (.int .i64)],[.box [.full 1,.sc (.int .i64),.sc (.int .i64)],.arr [.int .u8]],[.int .i64,.int .i64,.int .i64,.int .i64,.list [.int .u8]],⟨[.int .i64,.int .i64,.list [.int .u8]],.tup [],[.box [.full 1,.sc (.int .i64),.sc (.int .i64)],.arr [.int .u8]]⟩,
 fun ((num,bits,last,fill,text):Int×Int×Int×Int×List Int)=>Zeb num bits last fill text⟩
theorem Zeb.ev:∀d,Za7 C0 (hnd (tab [(263,ZcQ.S)])) Tryz.f239 (.seq .u (.blk (.loop ⟨[.int .i64,.int .i64,.int .i64,.int .i64,.int .i64,.list [.int .u8]],[(0,.ptr 0 0),(1,.sc (.int .i64)),(2,.sc (.int .i64)),(6,.sc (.int .i64))],[.box [.full 1,.sc (.int .i64),.sc (.int .i64)],.arr [.int .u8]]⟩ (fun ((num1,bits1,k,o,o1,o2):Int×Int×Int×Int×Int×List Int)=>(bits1-k).toNat+1) 0 ⟨[.int .i64,.int .i64,.list [.int .u8]],[],[.box [.full 1,.sc (.int .i64),.sc (.int .i64)],.arr [.int .u8]]⟩ (.seq .u (.seq (.blk (.seq .u (.seq .u (.seq .u (.seq .u (.cond (.seq (.cm [(0,[1])]) .u) .u)))))) .u))))) Zeb.S d=Zeb.S.F d:=fun _=>by kernel_rfl
theorem Zeb.sound:Zah Tryz.prog C0 239 Zeb.S:=sE Za8 Zeb.ev (Zai ⟨ZcQ.sound,trivial⟩) Tryz.func239
def ZdJ.S:ZaQ:=⟨1,[.ptr 0 0],[.box [.full 1,.sc (.int .i64),.sc (.int .i64)],.arr [.int .u8]],[.int .i64,.int .i64,.list [.int .u8]],⟨[.int .i64,.int .i64,.list [.int .u8]],.tup [],[.box [.full 1,.sc (.int .i64),.sc (.int .i64)],.arr [.int .u8]]⟩,
 fun ((last,fill,text):Int×Int×List Int)=>ZdJ last fill text⟩
theorem ZdJ.ev:∀d,Za7 C0 (hnd (tab [(239,Zeb.S)])) Tryz.f240 .u ZdJ.S d=ZdJ.S.F d:=fun _=>by kernel_rfl
theorem ZdJ.sound:Zah Tryz.prog C0 240 ZdJ.S:=sE Za8 ZdJ.ev (Zai ⟨Zeb.sound,trivial⟩) Tryz.func240
def Zj8.S:ZaQ:=⟨1,[.ptr 0 0],[.box [.sc .str,.sc (.int .i64),.sc .bool]],[.str,.int .i64,.bool],⟨[.int .i64,.str,.int .i64,.bool],.sc (.int .i64),[.box [.sc .str,.sc (.int .i64),.sc .bool]]⟩,
 fun ((s,at_,bad):Str×Int×Bool)=>Zj8 s at_ bad⟩
theorem Zj8.ev:∀d,Za7 C0 (hnd (tab [(263,ZcQ.S)])) Tryz.f258 .u Zj8.S d=Zj8.S.F d:=fun _=>by kernel_rfl
theorem Zj8.sound:Zah Tryz.prog C0 258 Zj8.S:=sE Za8 Zj8.ev (Zai ⟨ZcQ.sound,trivial⟩) Tryz.func258
def Zfc.S:ZaQ:=⟨1,[.ptr 0 0,.sc (.int .i64)],[.box [.sc .str,.sc (.int .i64),.sc .bool]],[.int .i64,.str,.int .i64,.bool],⟨[.int .i64,.str,.int .i64,.bool],.sc (.int .i64),[.box [.sc .str,.sc (.int .i64),.sc .bool]]⟩,
 fun ((bits,s,at_,bad):Int×Str×Int×Bool)=>Zfc bits s at_ bad⟩
theorem Zfc.ev:∀d,Za7 C0 (hnd (tab [(258,Zj8.S),(263,ZcQ.S)])) Tryz.f259 (.seq .u (.seq .u (.seq (.seq .u (.blk (.loop ⟨[.int .i64,.int .i64,.int .i64,.str,.int .i64,.bool],[(0,.ptr 0 0),(1,.sc (.int .i64)),(5,.sc (.int .i64)),(6,.sc (.int .i64))],[.box [.sc .str,.sc (.int .i64),.sc .bool]]⟩ (fun ((bits1,n,k,o,o1,o2):Int×Int×Int×Str×Int×Bool)=>(bits1-k).toNat+1) 0 ⟨[.int .i64,.str,.int .i64,.bool],[(5,.sc (.int .i64))],[.box [.sc .str,.sc (.int .i64),.sc .bool]]⟩ .u))) .u))) Zfc.S d=Zfc.S.F d:=fun _=>by kernel_rfl
theorem Zfc.sound:Zah Tryz.prog C0 259 Zfc.S:=sE Za8 Zfc.ev (Zai ⟨Zj8.sound,ZcQ.sound,trivial⟩) Tryz.func259
end Ev
end
section
open Go Go.Proofs
set_option maxRecDepth 100000
namespace Ev
set_option maxHeartbeats 1000000
def ZcS.S:ZaQ:=⟨1,[.ptr 0 0],[.box [.sc .str,.sc (.int .i64),.sc .bool]],[.str,.int .i64,.bool],⟨[.bool,.str,.int .i64,.bool],.sc .bool,[.box [.sc .str,.sc (.int .i64),.sc .bool]]⟩,
 fun ((s,at_,bad):Str×Int×Bool)=>ZcS s at_ bad⟩
theorem ZcS.ev:∀d,Za7 C0 (hnd (tab [(258,Zj8.S)])) Tryz.f238 (.seq .u (.seq .u (.seq (.blk (.loop ⟨[.int .i64,.str,.int .i64,.bool],[(0,.ptr 0 0),(3,.sc (.int .i64))],[.box [.sc .str,.sc (.int .i64),.sc .bool]]⟩ (fun ((n,o,o1,o2):Int×Str×Int×Bool)=>9) 0 ⟨[.int .i64,.str,.int .i64,.bool],[(3,.sc (.int .i64))],[.box [.sc .str,.sc (.int .i64),.sc .bool]]⟩ .u)) .u))) ZcS.S d=ZcS.S.F d:=fun _=>by kernel_rfl
theorem ZcS.sound:Zah Tryz.prog C0 238 ZcS.S:=sE Za8 ZcS.ev (Zai ⟨Zj8.sound,trivial⟩) Tryz.func238
def Zdg.S:ZaQ:=⟨0,[.sc (.int .i64),.sc (.int .i64)],[],[.int .i64,.int .i64],⟨[.int .i64],.sc (.int .i64),[]⟩,
 fun ((num,bits):Int×Int)=>Zdg num bits⟩
theorem Zdg.ev:∀d,Za7 C0 (hnd (tab [])) Tryz.f285 (.seq .u (.seq .u (.seq (.seq .u (.blk (.loop ⟨[.int .i64,.int .i64,.int .i64,.int .i64],[(0,.sc (.int .i64)),(1,.sc (.int .i64)),(5,.sc (.int .i64)),(6,.sc (.int .i64))],[]⟩ (fun ((num1,bits1,n,k):Int×Int×Int×Int)=>(bits1-k).toNat+1) 0 ⟨[.int .i64],[(5,.sc (.int .i64))],[]⟩ .u))) .u))) Zdg.S d=Zdg.S.F d:=fun _=>by kernel_rfl
theorem Zdg.sound:Zah Tryz.prog C0 285 Zdg.S:=sE Za8 Zdg.ev (Zai trivial) Tryz.func285
def Zdf.S:ZaQ:=⟨0,[.sc (.int .u32),.sc (.int .u8)],[],[.int .u32,.int .u8],⟨[.int .u32],.sc (.int .u32),[]⟩,
 fun ((c,b):Int×Int)=>Zdf c b⟩
theorem Zdf.ev:∀d,Za7 C0 (hnd (tab [])) Tryz.f221 (.seq .u (.seq .u (.seq (.seq .u (.blk (.loop ⟨[.int .u32,.int .i64],[(0,.sc (.int .u32)),(5,.sc (.int .i64))],[]⟩ (fun ((c1,k):Int×Int)=>(8-k).toNat+1) 0 ⟨[.int .u32],[(0,.sc (.int .u32))],[]⟩ .u))) .u))) Zdf.S d=Zdf.S.F d:=fun _=>by kernel_rfl
theorem Zdf.sound:Zah Tryz.prog C0 221 Zdf.S:=sE Za8 Zdf.ev (Zai trivial) Tryz.func221
def Zdl.S:ZaQ:=⟨0,[.sc (.int .u32),.sc .str],[],[.int .u32,.str],⟨[.int .u32],.sc (.int .u32),[]⟩,
 fun ((crc_,text):Int×Str)=>Zdl crc_ text⟩
theorem Zdl.ev:∀d,Za7 C0 (hnd (tab [(221,Zdf.S)])) Tryz.f187 (.seq .u (.seq .u (.seq (.seq .u (.blk (.loop ⟨[.str,.int .u32,.int .i64],[(1,.sc .str),(5,.sc (.int .u32)),(6,.sc (.int .i64))],[]⟩ (fun ((text1,c,i):Str×Int×Int)=>((text1.length:Int)-i).toNat+1) 0 ⟨[.int .u32],[(5,.sc (.int .u32))],[]⟩ .u))) .u))) Zdl.S d=Zdl.S.F d:=fun _=>by kernel_rfl
theorem Zdl.sound:Zah Tryz.prog C0 187 Zdl.S:=sE Za8 Zdl.ev (Zai ⟨Zdf.sound,trivial⟩) Tryz.func187
def Zdw.S:ZaQ:=⟨0,[.sc .str],[],[.str],⟨[.int .i64],.sc (.int .i64),[]⟩,
 fun (text:Str)=>Zdw text⟩
theorem Zdw.ev:∀d,Za7 C0 (hnd (tab [(187,Zdl.S)])) Tryz.f155 .u Zdw.S d=Zdw.S.F d:=fun _=>by kernel_rfl
theorem Zdw.sound:Zah Tryz.prog C0 155 Zdw.S:=sE Za8 Zdw.ev (Zai ⟨Zdl.sound,trivial⟩) Tryz.func155
def ZcL.S:ZaQ:=⟨0,[.sc (.list [.int .i64])],[],[.list [.int .i64]],⟨[.int .i64],.sc (.int .i64),[]⟩,
 fun (lens:List Int)=>ZcL lens⟩
theorem ZcL.ev:∀d,Za7 C0 (hnd (tab [])) Tryz.f271 (.seq .u (.seq .u (.seq (.seq .u (.blk (.loop ⟨[.list [.int .i64],.int .i64,.int .i64],[(0,.sc (.list [.int .i64])),(3,.sc (.int .i64)),(4,.sc (.int .i64))],[]⟩ (fun ((lens1,n,i):List Int×Int×Int)=>((lens1.length:Int)-i).toNat+1) 0 ⟨[.int .i64],[(3,.sc (.int .i64))],[]⟩ .u))) .u))) ZcL.S d=ZcL.S.F d:=fun _=>by kernel_rfl
theorem ZcL.sound:Zah Tryz.prog C0 271 ZcL.S:=sE Za8 ZcL.ev (Zai trivial) Tryz.func271
def ZaU.S:ZaQ:=⟨0,[.sc (.list [.int .i64])],[],[.list [.int .i64]],⟨[.bool],.sc .bool,[]⟩,
 fun (lens:List Int)=>ZaU lens⟩
theorem ZaU.ev:∀d,Za7 C0 (hnd (tab [(116,Zhp.S),(263,ZcQ.S),(271,ZcL.S)])) Tryz.f279 (.seq .u (.seq .u (.seq (.seq .u (.blk (.loopS ⟨[.list [.int .i64],.int .i64,.int .i64],[(0,.sc (.list [.int .i64])),(3,.sc (.int .i64)),(4,.sc (.int .i64))],[]⟩ (fun ((lens1,sum,i):List Int×Int×Int)=>((lens1.length:Int)-i).toNat+1) 0 ⟨[.list [.int .i64],.int .i64],[(0,.sc (.list [.int .i64])),(3,.sc (.int .i64))],[]⟩ .u))) (.seq (.reg [.bool] [(5,.sc .bool)]) (.seq (.reg [.bool] [(2,.sc .bool)]) .u))))) ZaU.S d=ZaU.S.F d:=fun _=>by kernel_rfl
theorem ZaU.sound:Zah Tryz.prog C0 279 ZaU.S:=sE Za8 ZaU.ev (Zai ⟨Zhp.sound,ZcQ.sound,ZcL.sound,trivial⟩) Tryz.func279
def ZaR.S:ZaQ:=⟨0,[.sc (.list [.int .i64])],[],[.list [.int .i64]],⟨[.list [.int .i64]],.full 0,[.arr [.int .i64]]⟩,
 fun (lens:List Int)=>ZaR lens⟩
theorem ZaR.ev:∀d,Za7 C0 (hnd (tab [])) Tryz.f264 (.seq .u (.seq .u (.seq .u (.seq (.seq .u (.blk (.loop ⟨[.list [.int .i64],.int .i64,.int .i64,.list [.int .i64]],[(0,.sc (.list [.int .i64])),(3,.full 0),(4,.sc (.int .i64)),(5,.sc (.int .i64))],[.arr [.int .i64]]⟩ (fun ((lens1,code_,n,out):List Int×Int×Int×List Int)=>(15-n).toNat+2) 0 ⟨[.list [.int .i64]],[(3,.full 0)],[.arr [.int .i64]]⟩ (.seq .u (.seq (.blk (.seq (.seq .u (.blk (.loop ⟨[.list [.int .i64],.int .i64,.int .i64,.int .i64,.list [.int .i64]],[(0,.sc (.list [.int .i64])),(3,.full 0),(4,.sc (.int .i64)),(5,.sc (.int .i64)),(6,.sc (.int .i64))],[.arr [.int .i64]]⟩ (fun ((lens2,code_1,n1,i,out1):List Int×Int×Int×Int×List Int)=>((lens2.length:Int)-i).toNat+1) 2 ⟨[.list [.int .i64],.int .i64,.int .i64,.list [.int .i64]],[(0,.sc (.list [.int .i64])),(3,.full 0),(4,.sc (.int .i64)),(5,.sc (.int .i64))],[.arr [.int .i64]]⟩ .u))) .u)) .u))))) .u)))) ZaR.S d=ZaR.S.F d:=fun _=>by kernel_rfl
theorem ZaR.sound:Zah Tryz.prog C0 264 ZaR.S:=sE Za8 ZaR.ev (Zai trivial) Tryz.func264
def Zcb.S:ZaQ:=⟨0,[.sc (.list [.int .i64,.int .i64,.ints .i64])],[],[.list [.int .i64,.int .i64,.ints .i64]],⟨[.int .i64],.sc (.int .i64),[]⟩,
 fun (list:List (Int×Int×List Int))=>Zcb list⟩
theorem Zcb.ev:∀d,Za7 C0 (hnd (tab [])) Tryz.f282 (.seq .u (.seq .u (.seq (.seq .u (.blk (.loop ⟨[.list [.int .i64,.int .i64,.ints .i64],.int .i64,.int .i64],[(0,.sc (.list [.int .i64,.int .i64,.ints .i64])),(3,.sc (.int .i64)),(4,.sc (.int .i64))],[]⟩ (fun ((list1,at_,i):(List (Int×Int×List Int))×Int×Int)=>((list1.length:Int)-i).toNat+1) 0 ⟨[.int .i64],[(3,.sc (.int .i64))],[]⟩ (.seq .u (.seq (.blk (.seq (.reg [.bool] [(47,.sc .bool)]) .u)) .u))))) .u))) Zcb.S d=Zcb.S.F d:=fun _=>by kernel_rfl
theorem Zcb.sound:Zah Tryz.prog C0 282 Zcb.S:=sE Za8 Zcb.ev (Zai trivial) Tryz.func282
def ZfL.S:ZaQ:=⟨0,[.sc (.list [.int .i64,.int .i64,.ints .i64]),.sc (.int .i64)],[],[.list [.int .i64,.int .i64,.ints .i64],.int .i64],⟨[.list [.int .i64,.int .i64,.ints .i64]],.full 0,[.arr [.int .i64,.int .i64,.ints .i64]]⟩,
 fun ((list,at_):(List (Int×Int×List Int))×Int)=>ZfL list at_⟩
theorem ZfL.ev:∀d,Za7 C0 (hnd (tab [])) Tryz.f283 .u ZfL.S d=ZfL.S.F d:=fun _=>by kernel_rfl
theorem ZfL.sound:Zah Tryz.prog C0 283 ZfL.S:=sE Za8 ZfL.ev (Zai trivial) Tryz.func283
def Zbl.S:ZaQ:=⟨0,[.sc (.list [.int .i64])],[],[.list [.int .i64]],⟨[.list [.int .i64]],.full 0,[.arr [.int .i64]]⟩,
 fun (counts:List Int)=>Zbl counts⟩
theorem Zbl.ev:∀d,Za7 C0 (hnd (tab [(282,Zcb.S),(283,ZfL.S)])) Tryz.f272 (.seq .u (.seq .u (.seq .u (.seq (.seq .u (.blk (.loop ⟨[.list [.int .i64],.int .i64,.list [.int .i64],.list [.int .i64,.int .i64,.ints .i64]],[(0,.sc (.list [.int .i64])),(3,.full 0),(4,.full 1),(5,.sc (.int .i64))],[.arr [.int .i64],.arr [.int .i64,.int .i64,.ints .i64]]⟩ (fun ((counts1,i,out,list):List Int×Int×List Int×List (Int×Int×List Int))=>((counts1.length:Int)-i).toNat+1) 0 ⟨[.list [.int .i64],.list [.int .i64,.int .i64,.ints .i64]],[(3,.full 0),(4,.full 1)],[.arr [.int .i64],.arr [.int .i64,.int .i64,.ints .i64]]⟩ .u))) (.join ⟨[.list [.int .i64],.list [.int .i64,.int .i64,.ints .i64]],[(3,.full 0),(4,.full 1)],[.arr [.int .i64],.arr [.int .i64,.int .i64,.ints .i64]]⟩ .u (.seq (.blk (.loop ⟨[.list [.int .i64],.list [.int .i64,.int .i64,.ints .i64]],[(3,.full 0),(4,.full 1)],[.arr [.int .i64],.arr [.int .i64,.int .i64,.ints .i64]]⟩ (fun ((out3,list3):List Int×List (Int×Int×List Int))=>((list3.length:Int)-1).toNat+1) 2 ⟨[.list [.int .i64]],[(3,.full 0)],[.arr [.int .i64]]⟩ (.seq .u (.blk (.seq .u (.seq .u (.seq .u (.seq .u (.seq .u (.seq .u (.seq .u (.join ⟨[.int .i64,.list [.int .i64],.list [.int .i64,.int .i64,.ints .i64],.int .i64,.int .i64,.list [.int .i64],.int .i64,.int .i64,.list [.int .i64]],[(3,.full 0),(4,.full 1),(7,.ptr 2 0),(8,.ptr 3 0),(9,.sc (.int .i64))],[.arr [.int .i64],.arr [.int .i64,.int .i64,.ints .i64],.box [.sc (.int .i64),.sc (.int .i64),.sc (.list [.int .i64])],.box [.sc (.int .i64),.sc (.int .i64),.sc (.list [.int .i64])]]⟩ .u (.seq .u (.seq (.seq .u (.blk (.loop ⟨[.int .i64,.int .i64,.list [.int .i64],.list [.int .i64,.int .i64,.ints .i64],.int .i64,.int .i64,.list [.int .i64],.int .i64,.int .i64,.list [.int .i64],.list [.int .i64]],[(3,.full 0),(4,.full 1),(7,.ptr 2 0),(8,.ptr 3 0),(9,.sc (.int .i64)),(10,.full 4),(11,.sc (.int .i64))],[.arr [.int .i64],.arr [.int .i64,.int .i64,.ints .i64],.box [.sc (.int .i64),.sc (.int .i64),.sc (.list [.int .i64])],.box [.sc (.int .i64),.sc (.int .i64),.sc (.list [.int .i64])],.arr [.int .i64]]⟩ (fun ((first1,i1,out5,list5,o6,o7,o8,o9,o10,o11,syms):Int×Int×List Int×(List (Int×Int×List Int))×Int×Int×List Int×Int×Int×List Int×List Int)=>((syms.length:Int)-i1).toNat+1) 4 ⟨[.int .i64,.list [.int .i64],.list [.int .i64,.int .i64,.ints .i64],.int .i64,.int .i64,.list [.int .i64],.int .i64,.int .i64,.list [.int .i64],.list [.int .i64]],[(3,.full 0),(4,.full 1),(7,.ptr 2 0),(8,.ptr 3 0),(9,.sc (.int .i64)),(10,.full 4)],[.arr [.int .i64],.arr [.int .i64,.int .i64,.ints .i64],.box [.sc (.int .i64),.sc (.int .i64),.sc (.list [.int .i64])],.box [.sc (.int .i64),.sc (.int .i64),.sc (.list [.int .i64])],.arr [.int .i64]]⟩ .u))) .u)))))))))))))) .u)))))) Zbl.S d=Zbl.S.F d:=fun _=>by kernel_rfl
theorem Zbl.sound:Zah Tryz.prog C0 272 Zbl.S:=sE Za8 Zbl.ev (Zai ⟨Zcb.sound,ZfL.sound,trivial⟩) Tryz.func272
def Zde.S:ZaQ:=⟨0,[.sc (.list [.int .i64])],[],[.list [.int .i64]],⟨[.int .i64],.sc (.int .i64),[]⟩,
 fun (lens:List Int)=>Zde lens⟩
theorem Zde.ev:∀d,Za7 C0 (hnd (tab [])) Tryz.f273 (.seq .u (.seq .u (.seq (.seq .u (.blk (.loop ⟨[.list [.int .i64],.int .i64,.int .i64],[(0,.sc (.list [.int .i64])),(3,.sc (.int .i64)),(4,.sc (.int .i64))],[]⟩ (fun ((lens1,n,i):List Int×Int×Int)=>((lens1.length:Int)-i).toNat+1) 0 ⟨[.int .i64],[(3,.sc (.int .i64))],[]⟩ .u))) .u))) Zde.S d=Zde.S.F d:=fun _=>by kernel_rfl
theorem Zde.sound:Zah Tryz.prog C0 273 Zde.S:=sE Za8 Zde.ev (Zai trivial) Tryz.func273
def ZcW.S:ZaQ:=⟨0,[.sc (.list [.int .i64]),.sc (.int .i64)],[],[.list [.int .i64],.int .i64],⟨[.list [.int .i64]],.full 0,[.arr [.int .i64]]⟩,
 fun ((counts,most):List Int×Int)=>ZcW counts most⟩
theorem ZcW.ev:∀d,Za7 C0 (hnd (tab [(272,Zbl.S),(273,Zde.S)])) Tryz.f247 (.seq .u (.seq .u (.seq .u (.seq (.blk (.loop ⟨[.int .i64,.list [.int .i64],.list [.int .i64]],[(1,.sc (.int .i64)),(5,.full 0),(6,.full 1)],[.arr [.int .i64],.arr [.int .i64]]⟩ (fun ((most1,list,out):Int×List Int×List Int)=>100000) 0 ⟨[.list [.int .i64]],[(6,.full 0)],[.arr [.int .i64]]⟩ (.seq .u (.blk (.seq (.seq .u (.blk (.loop ⟨[.int .i64,.int .i64,.list [.int .i64]],[(1,.sc (.int .i64)),(5,.full 0),(7,.sc (.int .i64))],[.arr [.int .i64]]⟩ (fun ((most2,i,list1):Int×Int×List Int)=>((list1.length:Int)-i).toNat+1) 2 ⟨[.int .i64,.list [.int .i64]],[(1,.sc (.int .i64)),(5,.full 0)],[.arr [.int .i64]]⟩ .u))) .u))))) .u)))) ZcW.S d=ZcW.S.F d:=fun _=>by kernel_rfl
theorem ZcW.sound:Zah Tryz.prog C0 247 ZcW.S:=sE Za8 ZcW.ev (Zai ⟨Zbl.sound,Zde.sound,trivial⟩) Tryz.func247
def ZeN.S:ZaQ:=⟨0,[.sc (.list [.int .i64]),.sc (.list [.int .i64]),.sc (.int .i64)],[],[.list [.int .i64],.list [.int .i64],.int .i64],⟨[.int .i64,.int .i64],.agg [.sc (.int .i64),.sc (.int .i64)],[]⟩,
 fun ((lens,codes_,sym):List Int×List Int×Int)=>ZeN lens codes_ sym⟩
theorem ZeN.ev:∀d,Za7 C0 (hnd (tab [(285,Zdg.S)])) Tryz.f281 .u ZeN.S d=ZeN.S.F d:=fun _=>by kernel_rfl
theorem ZeN.sound:Zah Tryz.prog C0 281 ZeN.S:=sE Za8 ZeN.ev (Zai ⟨Zdg.sound,trivial⟩) Tryz.func281
def ZaX.S:ZaQ:=⟨1,[.ptr 0 0,.sc (.list [.int .i64]),.sc (.list [.int .i64])],[.box [.sc .str,.sc (.int .i64),.sc .bool]],[.list [.int .i64],.list [.int .i64],.str,.int .i64,.bool],⟨[.int .i64,.str,.int .i64,.bool],.sc (.int .i64),[.box [.sc .str,.sc (.int .i64),.sc .bool]]⟩,
 fun ((lens,codes_,s,at_,bad):List Int×List Int×Str×Int×Bool)=>ZaX lens codes_ s at_ bad⟩
theorem ZaX.ev:∀d,Za7 C0 (hnd (tab [(258,Zj8.S)])) Tryz.f277 (.seq .u (.seq .u (.seq (.seq .u (.blk (.loopS ⟨[.list [.int .i64],.list [.int .i64],.int .i64,.int .i64,.str,.int .i64,.bool],[(0,.ptr 0 0),(1,.sc (.list [.int .i64])),(2,.sc (.list [.int .i64])),(7,.sc (.int .i64)),(8,.sc (.int .i64))],[.box [.sc .str,.sc (.int .i64),.sc .bool]]⟩ (fun ((lens1,codes_1,code_,n,o,o1,o2):List Int×List Int×Int×Int×Str×Int×Bool)=>(15-n).toNat+2) 0 ⟨[.str,.int .i64,.bool],[(0,.ptr 0 0)],[.box [.sc .str,.sc (.int .i64),.sc .bool]]⟩ (.seq (.seq (.reg [.bool] [(18,.sc .bool)]) .u) (.seq (.blk (.seq .u (.seq .u (.blk (.loopS ⟨[.list [.int .i64],.list [.int .i64],.int .i64,.int .i64,.int .i64,.str,.int .i64,.bool],[(0,.ptr 0 0),(1,.sc (.list [.int .i64])),(2,.sc (.list [.int .i64])),(7,.sc (.int .i64)),(8,.sc (.int .i64)),(9,.sc (.int .i64))],[.box [.sc .str,.sc (.int .i64),.sc .bool]]⟩ (fun ((lens2,codes_2,code_1,n1,i,o3,o4,o5):List Int×List Int×Int×Int×Int×Str×Int×Bool)=>((lens2.length:Int)-i).toNat+1) 2 ⟨[.list [.int .i64],.list [.int .i64],.int .i64,.int .i64,.str,.int .i64,.bool],[(0,.ptr 0 0),(1,.sc (.list [.int .i64])),(2,.sc (.list [.int .i64])),(7,.sc (.int .i64)),(8,.sc (.int .i64))],[.box [.sc .str,.sc (.int .i64),.sc .bool]]⟩ (.seq .u (.seq (.blk (.seq (.reg [.bool] [(45,.sc .bool)]) .u)) .u))))))) .u))))) .u))) ZaX.S d=ZaX.S.F d:=fun _=>by kernel_rfl
theorem ZaX.sound:Zah Tryz.prog C0 277 ZaX.S:=sE Za8 ZaX.ev (Zai ⟨Zj8.sound,trivial⟩) Tryz.func277
def ZeM.S:ZaQ:=⟨0,[.full 0,.agg [.sc (.int .i64),.sc (.int .i64),.sc (.int .i64)]],[.arr [.int .u8]],[.int .i64,.int .i64,.int .i64,.list [.int .u8]],⟨[.bool,.list [.int .u8]],.tup [.full 0,.sc .bool],[.arr [.int .u8]]⟩,
 fun ((byte,long,back,text):Int×Int×Int×List Int)=>ZeM byte long back text⟩
theorem ZeM.ev:∀d,Za7 C0 (hnd (tab [(116,Zhp.S)])) Tryz.f284 (.seq .u (.seq .u (.seq (.seq (.reg [.bool] [(45,.sc .bool)]) .u) (.seq (.seq .u (.blk (.loop ⟨[.int .i64,.list [.int .u8],.int .i64,.int .i64,.int .i64],[(0,.full 0),(3,.ptr 1 0),(6,.sc (.int .i64))],[.arr [.int .u8],.box [.sc (.int .i64),.sc (.int .i64),.sc (.int .i64)]]⟩ (fun ((i,text1,o,o1,o2):Int×List Int×Int×Int×Int)=>(o1-i).toNat+1) 0 ⟨[.list [.int .u8]],[(0,.full 0)],[.arr [.int .u8]]⟩ .u))) .u)))) ZeM.S d=ZeM.S.F d:=fun _=>by kernel_rfl
theorem ZeM.sound:Zah Tryz.prog C0 284 ZeM.S:=sE Za8 ZeM.ev (Zai ⟨Zhp.sound,trivial⟩) Tryz.func284
def Zci.S:ZaQ:=⟨0,[.sc .str,.sc (.int .i64),.sc (.int .i64)],[],[.str,.int .i64,.int .i64],⟨[.int .i64],.sc (.int .i64),[]⟩,
 fun ((text,at_,back):Str×Int×Int)=>Zci text at_ back⟩
theorem Zci.ev:∀d,Za7 C0 (hnd (tab [])) Tryz.f270 (.seq .u (.seq .u (.seq (.blk (.loop ⟨[.str,.int .i64,.int .i64,.int .i64],[(0,.sc .str),(1,.sc (.int .i64)),(2,.sc (.int .i64)),(7,.sc (.int .i64))],[]⟩ (fun ((text1,at_1,back1,n):Str×Int×Int×Int)=>62) 0 ⟨[.int .i64],[(7,.sc (.int .i64))],[]⟩ (.seq (.seq (.reg [.bool] [(32,.sc .bool)]) .u) .u))) .u))) Zci.S d=Zci.S.F d:=fun _=>by kernel_rfl
theorem Zci.sound:Zah Tryz.prog C0 270 Zci.S:=sE Za8 Zci.ev (Zai trivial) Tryz.func270
def ZaO.S:ZaQ:=⟨0,[.sc .str],[],[.str],⟨[.list [.int .i64,.int .i64,.int .i64]],.full 0,[.arr [.int .i64,.int .i64,.int .i64]]⟩,
 fun (text:Str)=>ZaO text⟩
theorem ZaO.ev:∀d,Za7 C0 (hnd (tab [(270,Zci.S)])) Tryz.f242 (.seq .u (.seq .u (.seq (.seq .u (.blk (.loop ⟨[.str,.int .i64,.list [.int .i64,.int .i64,.int .i64]],[(0,.sc .str),(3,.full 0),(4,.sc (.int .i64))],[.arr [.int .i64,.int .i64,.int .i64]]⟩ (fun ((text1,at_,out):Str×Int×List (Int×Int×Int))=>((text1.length:Int)-at_).toNat+1) 0 ⟨[.list [.int .i64,.int .i64,.int .i64]],[(3,.full 0)],[.arr [.int .i64,.int .i64,.int .i64]]⟩ (.seq .u (.blk (.seq .u (.seq .u (.seq (.seq .u (.blk (.loop ⟨[.str,.int .i64,.int .i64,.int .i64,.int .i64,.list [.int .i64,.int .i64,.int .i64]],[(0,.sc .str),(3,.full 0),(4,.sc (.int .i64)),(5,.sc (.int .i64)),(6,.sc (.int .i64)),(7,.sc (.int .i64))],[.arr [.int .i64,.int .i64,.int .i64]]⟩ (fun ((text2,at_1,long,far,back,out1):Str×Int×Int×Int×Int×List (Int×Int×Int))=>(250-back).toNat+2) 2 ⟨[.str,.int .i64,.int .i64,.int .i64,.list [.int .i64,.int .i64,.int .i64]],[(0,.sc .str),(3,.full 0),(4,.sc (.int .i64)),(5,.sc (.int .i64)),(6,.sc (.int .i64))],[.arr [.int .i64,.int .i64,.int .i64]]⟩ (.seq (.seq (.reg [.bool] [(20,.sc .bool)]) .u) .u)))) .u)))))))) .u))) ZaO.S d=ZaO.S.F d:=fun _=>by kernel_rfl
theorem ZaO.sound:Zah Tryz.prog C0 242 ZaO.S:=sE Za8 ZaO.ev (Zai ⟨Zci.sound,trivial⟩) Tryz.func242
def ZcV.S:ZaQ:=⟨0,[.sc (.list [.int .i64]),.sc (.int .i64)],[],[.list [.int .i64],.int .i64],⟨[.list [.int .i64]],.full 0,[.arr [.int .i64]]⟩,
 fun ((extra,from_):List Int×Int)=>ZcV extra from_⟩
theorem ZcV.ev:∀d,Za7 C0 (hnd (tab [(263,ZcQ.S)])) Tryz.f265 (.seq .u (.seq .u (.seq (.seq .u (.blk (.loop ⟨[.list [.int .i64],.int .i64,.int .i64,.list [.int .i64]],[(0,.sc (.list [.int .i64])),(1,.sc (.int .i64)),(5,.full 0),(6,.sc (.int .i64))],[.arr [.int .i64]]⟩ (fun ((extra1,from_1,i,out):List Int×Int×Int×List Int)=>((extra1.length:Int)-i).toNat+1) 0 ⟨[.list [.int .i64]],[(5,.full 0)],[.arr [.int .i64]]⟩ .u))) .u))) ZcV.S d=ZcV.S.F d:=fun _=>by kernel_rfl
theorem ZcV.sound:Zah Tryz.prog C0 265 ZcV.S:=sE Za8 ZcV.ev (Zai ⟨ZcQ.sound,trivial⟩) Tryz.func265
def Zbd.S:ZaQ:=⟨0,[],[],[],⟨[.list [.int .i64]],.full 0,[.arr [.int .i64]]⟩,
 fun (_:Unit)=>Zbd⟩
theorem Zbd.ev:∀d,Za7 C0 (hnd (tab [])) Tryz.f266 .u Zbd.S d=Zbd.S.F d:=fun _=>by kernel_rfl
theorem Zbd.sound:Zah Tryz.prog C0 266 Zbd.S:=sE Za8 Zbd.ev (Zai trivial) Tryz.func266
def Zbe.S:ZaQ:=⟨0,[],[],[],⟨[.list [.int .i64]],.full 0,[.arr [.int .i64]]⟩,
 fun (_:Unit)=>Zbe⟩
theorem Zbe.ev:∀d,Za7 C0 (hnd (tab [])) Tryz.f267 .u Zbe.S d=Zbe.S.F d:=fun _=>by kernel_rfl
theorem Zbe.sound:Zah Tryz.prog C0 267 Zbe.S:=sE Za8 Zbe.ev (Zai trivial) Tryz.func267
def Ze6.S:ZaQ:=⟨0,[.sc (.list [.int .i64]),.sc (.int .i64)],[],[.list [.int .i64],.int .i64],⟨[.int .i64],.sc (.int .i64),[]⟩,
 fun ((base,n):List Int×Int)=>Ze6 base n⟩
theorem Ze6.ev:∀d,Za7 C0 (hnd (tab [])) Tryz.f269 (.seq .u (.seq .u (.seq (.blk (.loop ⟨[.list [.int .i64],.int .i64,.int .i64],[(0,.sc (.list [.int .i64])),(1,.sc (.int .i64)),(5,.sc (.int .i64))],[]⟩ (fun ((base1,n1,k):List Int×Int×Int)=>(base1.length:Int).toNat+1) 0 ⟨[.int .i64],[(5,.sc (.int .i64))],[]⟩ (.seq (.seq (.reg [.bool] [(19,.sc .bool)]) .u) .u))) .u))) Ze6.S d=Ze6.S.F d:=fun _=>by kernel_rfl
theorem Ze6.sound:Zah Tryz.prog C0 269 Ze6.S:=sE Za8 Ze6.ev (Zai trivial) Tryz.func269
def Zc2.S:ZaQ:=⟨0,[],[],[],⟨[.list [.int .i64]],.full 0,[.arr [.int .i64]]⟩,
 fun (_:Unit)=>Zc2⟩
theorem Zc2.ev:∀d,Za7 C0 (hnd (tab [])) Tryz.f243 (.seq .u (.seq .u (.seq (.seq .u (.blk (.loop ⟨[.int .i64,.list [.int .i64]],[(1,.full 0),(2,.sc (.int .i64))],[.arr [.int .i64]]⟩ (fun ((i,out):Int×List Int)=>(288-i).toNat+1) 0 ⟨[.list [.int .i64]],[(1,.full 0)],[.arr [.int .i64]]⟩ .u))) .u))) Zc2.S d=Zc2.S.F d:=fun _=>by kernel_rfl
theorem Zc2.sound:Zah Tryz.prog C0 243 Zc2.S:=sE Za8 Zc2.ev (Zai trivial) Tryz.func243
def Zc3.S:ZaQ:=⟨0,[],[],[],⟨[.list [.int .i64]],.full 0,[.arr [.int .i64]]⟩,
 fun (_:Unit)=>Zc3⟩
theorem Zc3.ev:∀d,Za7 C0 (hnd (tab [])) Tryz.f244 (.seq .u (.seq .u (.seq (.seq .u (.blk (.loop ⟨[.int .i64,.list [.int .i64]],[(1,.full 0),(2,.sc (.int .i64))],[.arr [.int .i64]]⟩ (fun ((i,out):Int×List Int)=>(32-i).toNat+1) 0 ⟨[.list [.int .i64]],[(1,.full 0)],[.arr [.int .i64]]⟩ .u))) .u))) Zc3.S d=Zc3.S.F d:=fun _=>by kernel_rfl
theorem Zc3.sound:Zah Tryz.prog C0 244 Zc3.S:=sE Za8 Zc3.ev (Zai trivial) Tryz.func244
def Znt.S:ZaQ:=⟨1,[.ptr 0 0,.sc (.list [.int .i64]),.sc (.list [.int .i64]),.sc (.int .i64)],[.box [.full 1,.sc (.int .i64),.sc (.int .i64)],.arr [.int .u8]],[.list [.int .i64],.list [.int .i64],.int .i64,.int .i64,.int .i64,.list [.int .u8]],⟨[.int .i64,.int .i64,.list [.int .u8]],.tup [],[.box [.full 1,.sc (.int .i64),.sc (.int .i64)],.arr [.int .u8]]⟩,
 fun ((lens,codes_,sym,last,fill,text):List Int×List Int×Int×Int×Int×List Int)=>Znt lens codes_ sym last fill text⟩
theorem Znt.ev:∀d,Za7 C0 (hnd (tab [(239,Zeb.S),(281,ZeN.S)])) Tryz.f268 .u Znt.S d=Znt.S.F d:=fun _=>by kernel_rfl
theorem Znt.sound:Zah Tryz.prog C0 268 Znt.S:=sE Za8 Znt.ev (Zai ⟨Zeb.sound,ZeN.sound,trivial⟩) Tryz.func268
def ZbR.S:ZaQ:=⟨1,[.ptr 0 0,.sc (.list [.int .i64,.int .i64,.int .i64]),.sc (.list [.int .i64]),.sc (.list [.int .i64])],[.box [.full 1,.sc (.int .i64),.sc (.int .i64)],.arr [.int .u8]],[.list [.int .i64,.int .i64,.int .i64],.list [.int .i64],.list [.int .i64],.int .i64,.int .i64,.list [.int .u8]],⟨[.int .i64,.int .i64,.list [.int .u8]],.tup [],[.box [.full 1,.sc (.int .i64),.sc (.int .i64)],.arr [.int .u8]]⟩,
 fun ((list,longs,backs,last,fill,text):(List (Int×Int×Int))×List Int×List Int×Int×Int×List Int)=>ZbR list longs backs last fill text⟩
theorem ZbR.ev:∀d,Za7 C0 (hnd (tab [(239,Zeb.S),(264,ZaR.S),(265,ZcV.S),(266,Zbd.S),(267,Zbe.S),(268,Znt.S),(269,Ze6.S)])) Tryz.f241 (.seq .u (.seq .u (.seq .u (.seq .u (.seq (.seq .u (.blk (.loop ⟨[.list [.int .i64,.int .i64,.int .i64],.list [.int .i64],.list [.int .i64],.int .i64,.int .i64,.int .i64,.list [.int .i64],.list [.int .i64],.list [.int .i64],.list [.int .i64],.list [.int .u8]],[(0,.ptr 0 0),(1,.sc (.list [.int .i64,.int .i64,.int .i64])),(2,.sc (.list [.int .i64])),(3,.sc (.list [.int .i64])),(8,.full 1),(9,.full 2),(10,.full 3),(11,.full 4),(12,.sc (.int .i64))],[.box [.full 5,.sc (.int .i64),.sc (.int .i64)],.arr [.int .i64],.arr [.int .i64],.arr [.int .i64],.arr [.int .i64],.arr [.int .u8]]⟩ (fun ((list1,longs1,backs1,i,o,o1,a,b,long,back,o2):(List (Int×Int×Int))×List Int×List Int×Int×Int×Int×List Int×List Int×List Int×List Int×List Int)=>((list1.length:Int)-i).toNat+1) 0 ⟨[.list [.int .i64],.int .i64,.int .i64,.list [.int .i64],.list [.int .u8]],[(0,.ptr 0 0),(2,.sc (.list [.int .i64])),(8,.full 1)],[.box [.full 2,.sc (.int .i64),.sc (.int .i64)],.arr [.int .i64],.arr [.int .u8]]⟩ .u))) .u))))) ZbR.S d=ZbR.S.F d:=fun _=>by kernel_rfl
theorem ZbR.sound:Zah Tryz.prog C0 241 ZbR.S:=sE Za8 ZbR.ev (Zai ⟨Zeb.sound,ZaR.sound,ZcV.sound,Zbd.sound,Zbe.sound,Znt.sound,Ze6.sound,trivial⟩) Tryz.func241
def Zeq.S:ZaQ:=⟨0,[.sc .str],[],[.str],⟨[.str],.sc .str,[]⟩,
 fun (text:Str)=>Zeq text⟩
theorem Zeq.ev:∀d,Za7 C0 (hnd (tab [(239,Zeb.S),(240,ZdJ.S)])) Tryz.f223 .u Zeq.S d=Zeq.S.F d:=fun _=>by kernel_rfl
theorem Zeq.sound:Zah Tryz.prog C0 223 Zeq.S:=sE Za8 Zeq.ev (Zai ⟨Zeb.sound,ZdJ.sound,trivial⟩) Tryz.func223
def Zer.S:ZaQ:=⟨0,[.sc .str],[],[.str],⟨[.str],.sc .str,[]⟩,
 fun (text:Str)=>Zer text⟩
theorem Zer.ev:∀d,Za7 C0 (hnd (tab [(239,Zeb.S),(240,ZdJ.S),(241,ZbR.S),(242,ZaO.S),(243,Zc2.S),(244,Zc3.S)])) Tryz.f224 .u Zer.S d=Zer.S.F d:=fun _=>by kernel_rfl
theorem Zer.sound:Zah Tryz.prog C0 224 Zer.S:=sE Za8 Zer.ev (Zai ⟨Zeb.sound,ZdJ.sound,ZbR.sound,ZaO.sound,Zc2.sound,Zc3.sound,trivial⟩) Tryz.func224
end Ev
end
section
open Go Go.Proofs
set_option maxRecDepth 100000
namespace Ev
set_option maxHeartbeats 1000000
def ZbF.S:ZaQ:=⟨0,[.sc (.list [.int .i64,.int .i64,.int .i64])],[],[.list [.int .i64,.int .i64,.int .i64]],⟨[.list [.int .i64],.list [.int .i64]],.tup [.full 0,.full 1],[.arr [.int .i64],.arr [.int .i64]]⟩,
 fun (list:List (Int×Int×Int))=>ZbF list⟩
theorem ZbF.ev:∀d,Za7 C0 (hnd (tab [(265,ZcV.S),(266,Zbd.S),(267,Zbe.S),(269,Ze6.S),(271,ZcL.S)])) Tryz.f245 (.seq .u (.seq .u (.seq .u (.seq .u (.seq .u (.seq .u (.seq (.seq .u (.blk (.loop ⟨[.list [.int .i64,.int .i64,.int .i64],.int .i64,.list [.int .i64],.list [.int .i64],.list [.int .i64],.list [.int .i64]],[(0,.sc (.list [.int .i64,.int .i64,.int .i64])),(4,.full 0),(5,.full 1),(6,.full 2),(7,.full 3),(8,.sc (.int .i64))],[.arr [.int .i64],.arr [.int .i64],.arr [.int .i64],.arr [.int .i64]]⟩ (fun ((list1,i,longs,backs,long,back):(List (Int×Int×Int))×Int×List Int×List Int×List Int×List Int)=>((list1.length:Int)-i).toNat+1) 0 ⟨[.list [.int .i64],.list [.int .i64]],[(4,.full 0),(5,.full 1)],[.arr [.int .i64],.arr [.int .i64]]⟩ .u))) .u))))))) ZbF.S d=ZbF.S.F d:=fun _=>by kernel_rfl
theorem ZbF.sound:Zah Tryz.prog C0 245 ZbF.S:=sE Za8 ZbF.ev (Zai ⟨ZcV.sound,Zbd.sound,Zbe.sound,Ze6.sound,ZcL.sound,trivial⟩) Tryz.func245
def ZcF.S:ZaQ:=⟨0,[.sc (.list [.int .i64]),.sc (.int .i64)],[],[.list [.int .i64],.int .i64],⟨[.list [.int .i64]],.sc (.list [.int .i64]),[]⟩,
 fun ((lens,least_):List Int×Int)=>ZcF lens least_⟩
theorem ZcF.ev:∀d,Za7 C0 (hnd (tab [])) Tryz.f246 (.seq .u (.seq .u (.seq (.blk (.loop ⟨[.list [.int .i64],.int .i64,.int .i64],[(0,.sc (.list [.int .i64])),(1,.sc (.int .i64)),(5,.sc (.int .i64))],[]⟩ (fun ((lens1,least_1,n):List Int×Int×Int)=>(n-least_1).toNat+1) 0 ⟨[.list [.int .i64],.int .i64],[(0,.sc (.list [.int .i64])),(5,.sc (.int .i64))],[]⟩ (.seq (.seq (.reg [.bool] [(18,.sc .bool)]) .u) .u))) .u))) ZcF.S d=ZcF.S.F d:=fun _=>by kernel_rfl
theorem ZcF.sound:Zah Tryz.prog C0 246 ZcF.S:=sE Za8 ZcF.ev (Zai trivial) Tryz.func246
def Zdx.S:ZaQ:=⟨0,[],[],[],⟨[.list [.int .i64]],.full 0,[.arr [.int .i64]]⟩,
 fun (_:Unit)=>Zdx⟩
theorem Zdx.ev:∀d,Za7 C0 (hnd (tab [])) Tryz.f274 .u Zdx.S d=Zdx.S.F d:=fun _=>by kernel_rfl
theorem Zdx.sound:Zah Tryz.prog C0 274 Zdx.S:=sE Za8 Zdx.ev (Zai trivial) Tryz.func274
def Zco.S:ZaQ:=⟨1,[.ptr 0 0,.sc (.list [.int .i64]),.sc (.list [.int .i64])],[.box [.full 1,.sc (.int .i64),.sc (.int .i64)],.arr [.int .u8]],[.list [.int .i64],.list [.int .i64],.int .i64,.int .i64,.list [.int .u8]],⟨[.int .i64,.int .i64,.list [.int .u8]],.tup [],[.box [.full 1,.sc (.int .i64),.sc (.int .i64)],.arr [.int .u8]]⟩,
 fun ((longs,backs,last,fill,text):List Int×List Int×Int×Int×List Int)=>Zco longs backs last fill text⟩
theorem Zco.ev:∀d,Za7 C0 (hnd (tab [(239,Zeb.S),(247,ZcW.S),(264,ZaR.S),(268,Znt.S),(274,Zdx.S)])) Tryz.f248 (.seq .u (.seq .u (.seq (.seq .u (.blk (.loop ⟨[.list [.int .i64],.list [.int .i64],.int .i64,.int .i64,.int .i64,.list [.int .i64],.list [.int .i64],.list [.int .u8]],[(0,.ptr 0 0),(1,.sc (.list [.int .i64])),(2,.sc (.list [.int .i64])),(6,.full 1),(7,.full 2),(8,.sc (.int .i64))],[.box [.full 3,.sc (.int .i64),.sc (.int .i64)],.arr [.int .i64],.arr [.int .i64],.arr [.int .u8]]⟩ (fun ((longs1,backs1,i,o,o1,all,counts,o2):List Int×List Int×Int×Int×Int×List Int×List Int×List Int)=>((all.length:Int)-i).toNat+1) 0 ⟨[.list [.int .i64],.list [.int .i64],.int .i64,.int .i64,.list [.int .i64],.list [.int .i64],.list [.int .u8]],[(0,.ptr 0 0),(1,.sc (.list [.int .i64])),(2,.sc (.list [.int .i64])),(6,.full 1),(7,.full 2)],[.box [.full 3,.sc (.int .i64),.sc (.int .i64)],.arr [.int .i64],.arr [.int .i64],.arr [.int .u8]]⟩ .u))) (.seq .u (.seq .u (.seq .u (.seq .u (.seq .u (.seq (.seq .u (.blk (.loop ⟨[.int .i64,.int .i64,.int .i64,.list [.int .i64],.list [.int .i64],.list [.int .i64],.list [.int .u8]],[(0,.ptr 0 0),(6,.full 1),(9,.full 2),(10,.full 3),(11,.sc (.int .i64))],[.box [.full 4,.sc (.int .i64),.sc (.int .i64)],.arr [.int .i64],.arr [.int .i64],.arr [.int .i64],.arr [.int .u8]]⟩ (fun ((i1,o6,o7,all2,lens,codes_,o8):Int×Int×Int×List Int×List Int×List Int×List Int)=>(19-i1).toNat+1) 2 ⟨[.int .i64,.int .i64,.list [.int .i64],.list [.int .i64],.list [.int .i64],.list [.int .u8]],[(0,.ptr 0 0),(6,.full 1),(9,.full 2),(10,.full 3)],[.box [.full 4,.sc (.int .i64),.sc (.int .i64)],.arr [.int .i64],.arr [.int .i64],.arr [.int .i64],.arr [.int .u8]]⟩ .u))) (.seq .u (.blk (.loop ⟨[.int .i64,.int .i64,.int .i64,.list [.int .i64],.list [.int .i64],.list [.int .i64],.list [.int .u8]],[(0,.ptr 0 0),(6,.full 1),(9,.full 2),(10,.full 3),(12,.sc (.int .i64))],[.box [.full 4,.sc (.int .i64),.sc (.int .i64)],.arr [.int .i64],.arr [.int .i64],.arr [.int .i64],.arr [.int .u8]]⟩ (fun ((i2,o12,o13,all4,lens2,codes_2,o14):Int×Int×Int×List Int×List Int×List Int×List Int)=>((all4.length:Int)-i2).toNat+1) 4 ⟨[.int .i64,.int .i64,.list [.int .u8]],[],[.box [.full 1,.sc (.int .i64),.sc (.int .i64)],.arr [.int .u8]]⟩ .u)))))))))))) Zco.S d=Zco.S.F d:=fun _=>by kernel_rfl
theorem Zco.sound:Zah Tryz.prog C0 248 Zco.S:=sE Za8 Zco.ev (Zai ⟨Zeb.sound,ZcW.sound,ZaR.sound,Znt.sound,Zdx.sound,trivial⟩) Tryz.func248
def Zjn.S:ZaQ:=⟨0,[.sc .str],[],[.str],⟨[.str],.sc .str,[]⟩,
 fun (text:Str)=>Zjn text⟩
theorem Zjn.ev:∀d,Za7 C0 (hnd (tab [(239,Zeb.S),(240,ZdJ.S),(241,ZbR.S),(242,ZaO.S),(245,ZbF.S),(246,ZcF.S),(247,ZcW.S),(248,Zco.S)])) Tryz.f225 .u Zjn.S d=Zjn.S.F d:=fun _=>by kernel_rfl
theorem Zjn.sound:Zah Tryz.prog C0 225 Zjn.S:=sE Za8 Zjn.ev (Zai ⟨Zeb.sound,ZdJ.sound,ZbR.sound,ZaO.sound,ZbF.sound,ZcF.sound,ZcW.sound,Zco.sound,trivial⟩) Tryz.func225
def Zat.S:ZaQ:=⟨0,[.sc .str],[],[.str],⟨[.str],.sc .str,[]⟩,
 fun (text:Str)=>Zat text⟩
theorem Zat.ev:∀d,Za7 C0 (hnd (tab [(223,Zeq.S),(224,Zer.S),(225,Zjn.S)])) Tryz.f194 (.seq .u (.seq .u (.seq .u (.seq .u (.seq (.seq .u (.blk (.loop ⟨[.str,.int .i64,.list [.str]],[(3,.sc .str),(4,.full 0),(5,.sc (.int .i64))],[.arr [.str]]⟩ (fun ((out,i,list):Str×Int×List Str)=>((list.length:Int)-i).toNat+1) 0 ⟨[.str],[(3,.sc .str)],[]⟩ .u))) .u))))) Zat.S d=Zat.S.F d:=fun _=>by kernel_rfl
theorem Zat.sound:Zah Tryz.prog C0 194 Zat.S:=sE Za8 Zat.ev (Zai ⟨Zeq.sound,Zer.sound,Zjn.sound,trivial⟩) Tryz.func194
def ZbX.S:ZaQ:=⟨1,[.ptr 0 0,.full 1],[.box [.sc .str,.sc (.int .i64),.sc .bool],.arr [.int .u8]],[.str,.int .i64,.bool,.list [.int .u8]],⟨[.str,.int .i64,.bool,.list [.int .u8]],.full 1,[.box [.sc .str,.sc (.int .i64),.sc .bool],.arr [.int .u8]]⟩,
 fun ((s,at_,bad,text):Str×Int×Bool×List Int)=>ZbX s at_ bad text⟩
theorem ZbX.ev:∀d,Za7 C0 (hnd (tab [(238,ZcS.S),(259,Zfc.S)])) Tryz.f260 (.seq .u (.join ⟨[.str,.int .i64,.bool,.list [.int .u8]],[(0,.ptr 0 0),(1,.full 1)],[.box [.sc .str,.sc (.int .i64),.sc .bool],.arr [.int .u8]]⟩ .u (.seq .u (.join ⟨[.int .i64,.str,.int .i64,.bool,.list [.int .u8]],[(0,.ptr 0 0),(1,.full 1),(5,.sc (.int .i64))],[.box [.sc .str,.sc (.int .i64),.sc .bool],.arr [.int .u8]]⟩ .u (.seq (.seq .u (.blk (.loop ⟨[.int .i64,.int .i64,.str,.int .i64,.bool,.list [.int .u8]],[(0,.ptr 0 0),(1,.full 1),(5,.sc (.int .i64)),(6,.sc (.int .i64))],[.box [.sc .str,.sc (.int .i64),.sc .bool],.arr [.int .u8]]⟩ (fun ((n1,i,o6,o7,o8,text3):Int×Int×Str×Int×Bool×List Int)=>(n1-i).toNat+1) 0 ⟨[.str,.int .i64,.bool,.list [.int .u8]],[(1,.full 1)],[.box [.sc .str,.sc (.int .i64),.sc .bool],.arr [.int .u8]]⟩ (.seq (.seq (.reg [.bool] [(36,.sc .bool)]) .u) .u)))) .u))))) ZbX.S d=ZbX.S.F d:=fun _=>by kernel_rfl
theorem ZbX.sound:Zah Tryz.prog C0 260 ZbX.S:=sE Za8 ZbX.ev (Zai ⟨ZcS.sound,Zfc.sound,trivial⟩) Tryz.func260
def ZfZ.S:ZaQ:=⟨1,[.ptr 0 0,.full 1,.sc (.int .i64),.sc (.list [.int .i64]),.sc (.list [.int .i64])],[.box [.sc .str,.sc (.int .i64),.sc .bool],.arr [.int .u8]],[.int .i64,.list [.int .i64],.list [.int .i64],.str,.int .i64,.bool,.list [.int .u8]],⟨[.str,.int .i64,.bool,.list [.int .u8]],.full 1,[.box [.sc .str,.sc (.int .i64),.sc .bool],.arr [.int .u8]]⟩,
 fun ((sym,backs,codes_,s,at_,bad,text):Int×List Int×List Int×Str×Int×Bool×List Int)=>ZfZ sym backs codes_ s at_ bad text⟩
theorem ZfZ.ev:∀d,Za7 C0 (hnd (tab [(259,Zfc.S),(265,ZcV.S),(266,Zbd.S),(267,Zbe.S),(277,ZaX.S),(284,ZeM.S)])) Tryz.f278 (.seq .u (.seq .u (.seq .u (.seq (.cm [(2,[0]),(3,[0]),(4,[0])]) (.seq .u (.seq .u (.seq (.cm [(2,[0]),(3,[0]),(4,[0])]) .u))))))) ZfZ.S d=ZfZ.S.F d:=fun _=>by kernel_rfl
theorem ZfZ.sound:Zah Tryz.prog C0 278 ZfZ.S:=sE Za8 ZfZ.ev (Zai ⟨Zfc.sound,ZcV.sound,Zbd.sound,Zbe.sound,ZaX.sound,ZeM.sound,trivial⟩) Tryz.func278
def Zb9.S:ZaQ:=⟨1,[.ptr 0 0,.full 1,.sc (.list [.int .i64]),.sc (.list [.int .i64])],[.box [.sc .str,.sc (.int .i64),.sc .bool],.arr [.int .u8]],[.list [.int .i64],.list [.int .i64],.str,.int .i64,.bool,.list [.int .u8]],⟨[.str,.int .i64,.bool,.list [.int .u8]],.full 1,[.box [.sc .str,.sc (.int .i64),.sc .bool],.arr [.int .u8]]⟩,
 fun ((longs,backs,s,at_,bad,text):List Int×List Int×Str×Int×Bool×List Int)=>Zb9 longs backs s at_ bad text⟩
theorem Zb9.ev:∀d,Za7 C0 (hnd (tab [(264,ZaR.S),(277,ZaX.S),(278,ZfZ.S)])) Tryz.f261 (.seq .u (.seq .u (.seq .u (.seq (.blk (.loopS ⟨[.list [.int .i64],.list [.int .i64],.str,.int .i64,.bool,.list [.int .u8],.list [.int .i64],.list [.int .i64]],[(0,.ptr 0 0),(1,.full 1),(2,.sc (.list [.int .i64])),(3,.sc (.list [.int .i64])),(9,.full 2),(10,.full 3)],[.box [.sc .str,.sc (.int .i64),.sc .bool],.arr [.int .u8],.arr [.int .i64],.arr [.int .i64]]⟩ (fun ((longs1,backs1,o,o1,o2,text1,a,b):List Int×List Int×Str×Int×Bool×List Int×List Int×List Int)=>100000) 0 ⟨[.str,.int .i64,.bool,.list [.int .u8]],[(0,.ptr 0 0),(1,.full 1)],[.box [.sc .str,.sc (.int .i64),.sc .bool],.arr [.int .u8]]⟩ (.seq (.seq (.reg [.bool] [(25,.sc .bool)]) .u) (.blk (.seq .u (.blk (.seq (.reg [.bool] [(36,.sc .bool)]) .u))))))) .u)))) Zb9.S d=Zb9.S.F d:=fun _=>by kernel_rfl
theorem Zb9.sound:Zah Tryz.prog C0 261 Zb9.S:=sE Za8 Zb9.ev (Zai ⟨ZaR.sound,ZaX.sound,ZfZ.sound,trivial⟩) Tryz.func261
def ZdT.S:ZaQ:=⟨1,[.ptr 0 0,.full 1,.sc (.int .i64)],[.box [.sc .str,.sc (.int .i64),.sc .bool],.arr [.int .i64]],[.int .i64,.str,.int .i64,.bool,.list [.int .i64]],⟨[.str,.int .i64,.bool,.list [.int .i64]],.full 1,[.box [.sc .str,.sc (.int .i64),.sc .bool],.arr [.int .i64]]⟩,
 fun ((sym,s,at_,bad,out):Int×Str×Int×Bool×List Int)=>ZdT sym s at_ bad out⟩
theorem ZdT.ev:∀d,Za7 C0 (hnd (tab [(259,Zfc.S)])) Tryz.f280 (.seq .u (.seq .u (.seq .u (.join ⟨[.int .i64,.int .i64,.str,.int .i64,.bool,.list [.int .i64]],[(0,.ptr 0 0),(1,.full 1),(7,.sc (.int .i64)),(8,.sc (.int .i64))],[.box [.sc .str,.sc (.int .i64),.sc .bool],.arr [.int .i64]]⟩ (.blk (.seq (.reg [.bool] [(11,.sc .bool)]) .u)) (.seq (.seq .u (.blk (.loop ⟨[.int .i64,.int .i64,.int .i64,.str,.int .i64,.bool,.list [.int .i64]],[(0,.ptr 0 0),(1,.full 1),(7,.sc (.int .i64)),(8,.sc (.int .i64)),(9,.sc (.int .i64))],[.box [.sc .str,.sc (.int .i64),.sc .bool],.arr [.int .i64]]⟩ (fun ((last1,n1,i,o3,o4,o5,out2):Int×Int×Int×Str×Int×Bool×List Int)=>(n1-i).toNat+1) 1 ⟨[.str,.int .i64,.bool,.list [.int .i64]],[(1,.full 1)],[.box [.sc .str,.sc (.int .i64),.sc .bool],.arr [.int .i64]]⟩ (.seq (.seq (.reg [.bool] [(55,.sc .bool)]) .u) .u)))) .u))))) ZdT.S d=ZdT.S.F d:=fun _=>by kernel_rfl
theorem ZdT.sound:Zah Tryz.prog C0 280 ZdT.S:=sE Za8 ZdT.ev (Zai ⟨Zfc.sound,trivial⟩) Tryz.func280
def Zc1.S:ZaQ:=⟨1,[.ptr 0 0],[.box [.sc .str,.sc (.int .i64),.sc .bool]],[.str,.int .i64,.bool],⟨[.list [.int .i64],.list [.int .i64],.str,.int .i64,.bool],.tup [.sc (.list [.int .i64]),.sc (.list [.int .i64])],[.box [.sc .str,.sc (.int .i64),.sc .bool]]⟩,
 fun ((s,at_,bad):Str×Int×Bool)=>Zc1 s at_ bad⟩
theorem Zc1.ev:∀d,Za7 C0 (hnd (tab [(259,Zfc.S),(264,ZaR.S),(274,Zdx.S),(277,ZaX.S),(279,ZaU.S),(280,ZdT.S)])) Tryz.f262 (.seq .u (.seq .u (.seq .u (.seq .u (.seq .u (.seq (.seq .u (.blk (.loop ⟨[.int .i64,.int .i64,.int .i64,.int .i64,.str,.int .i64,.bool,.list [.int .i64]],[(0,.ptr 0 0),(4,.sc (.int .i64)),(5,.sc (.int .i64)),(6,.sc (.int .i64)),(7,.full 1),(8,.sc (.int .i64))],[.box [.sc .str,.sc (.int .i64),.sc .bool],.arr [.int .i64]]⟩ (fun ((long,back,n,i,o,o1,o2,lens):Int×Int×Int×Int×Str×Int×Bool×List Int)=>(n-i).toNat+1) 0 ⟨[.int .i64,.int .i64,.str,.int .i64,.bool,.list [.int .i64]],[(0,.ptr 0 0),(4,.sc (.int .i64)),(5,.sc (.int .i64)),(7,.full 1)],[.box [.sc .str,.sc (.int .i64),.sc .bool],.arr [.int .i64]]⟩ (.seq .u (.seq (.blk (.cm [(0,[0]),(2,[0]),(3,[0]),(4,[0])])) .u))))) (.seq (.seq (.reg [.bool] [(44,.sc .bool)]) .u) (.seq .u (.seq .u (.seq (.blk (.loop ⟨[.int .i64,.int .i64,.str,.int .i64,.bool,.list [.int .i64],.list [.int .i64],.list [.int .i64]],[(0,.ptr 0 0),(4,.sc (.int .i64)),(5,.sc (.int .i64)),(7,.full 1),(9,.full 2),(10,.full 3)],[.box [.sc .str,.sc (.int .i64),.sc .bool],.arr [.int .i64],.arr [.int .i64],.arr [.int .i64]]⟩ (fun ((long2,back2,o6,o7,o8,lens2,codes_,all):Int×Int×Str×Int×Bool×List Int×List Int×List Int)=>((w64 (long2+back2))-(all.length:Int)).toNat+1) 2 ⟨[.int .i64,.int .i64,.str,.int .i64,.bool,.list [.int .i64]],[(0,.ptr 0 0),(4,.sc (.int .i64)),(5,.sc (.int .i64)),(10,.full 1)],[.box [.sc .str,.sc (.int .i64),.sc .bool],.arr [.int .i64]]⟩ (.seq (.seq (.reg [.bool] [(65,.sc .bool)]) .u) .u))) (.seq (.seq (.reg [.bool] [(98,.sc .bool)]) .u) .u))))))))))) Zc1.S d=Zc1.S.F d:=fun _=>by kernel_rfl
theorem Zc1.sound:Zah Tryz.prog C0 262 Zc1.S:=sE Za8 Zc1.ev (Zai ⟨Zfc.sound,ZaR.sound,Zdx.sound,ZaX.sound,ZaU.sound,ZdT.sound,trivial⟩) Tryz.func262
def Zja.S:ZaQ:=⟨1,[.ptr 0 0,.full 1],[.box [.sc .str,.sc (.int .i64),.sc .bool],.arr [.int .u8]],[.str,.int .i64,.bool,.list [.int .u8]],⟨[.bool,.str,.int .i64,.bool,.list [.int .u8]],.tup [.full 1,.sc .bool],[.box [.sc .str,.sc (.int .i64),.sc .bool],.arr [.int .u8]]⟩,
 fun ((s,at_,bad,text):Str×Int×Bool×List Int)=>Zja s at_ bad text⟩
theorem Zja.ev:∀d,Za7 C0 (hnd (tab [(243,Zc2.S),(244,Zc3.S),(258,Zj8.S),(259,Zfc.S),(260,ZbX.S),(261,Zb9.S),(262,Zc1.S)])) Tryz.f237 .u Zja.S d=Zja.S.F d:=fun _=>by kernel_rfl
theorem Zja.sound:Zah Tryz.prog C0 237 Zja.S:=sE Za8 Zja.ev (Zai ⟨Zc2.sound,Zc3.sound,Zj8.sound,Zfc.sound,ZbX.sound,Zb9.sound,Zc1.sound,trivial⟩) Tryz.func237
def Zey.S:ZaQ:=⟨0,[.sc .str],[],[.str],⟨[.str,.int .i64,.bool],.tup [.sc .str,.sc (.int .i64),.sc .bool],[]⟩,
 fun (text:Str)=>Zey text⟩
theorem Zey.ev:∀d,Za7 C0 (hnd (tab [(237,Zja.S),(238,ZcS.S)])) Tryz.f220 (.seq .u (.seq .u (.seq .u (.seq .u (.seq (.blk (.loop ⟨[.bool,.str,.int .i64,.bool,.list [.int .u8]],[(5,.ptr 0 0),(6,.full 1),(7,.sc .bool)],[.box [.sc .str,.sc (.int .i64),.sc .bool],.arr [.int .u8]]⟩ (fun ((last,o,o1,o2,out):Bool×Str×Int×Bool×List Int)=>100000) 0 ⟨[.str,.int .i64,.bool,.list [.int .u8]],[(5,.ptr 0 0),(6,.full 1)],[.box [.sc .str,.sc (.int .i64),.sc .bool],.arr [.int .u8]]⟩ (.seq (.seq (.reg [.bool] [(23,.sc .bool)]) .u) .u))) (.seq .u (.seq (.seq (.reg [.bool] [(46,.sc .bool)]) .u) .u))))))) Zey.S d=Zey.S.F d:=fun _=>by kernel_rfl
theorem Zey.sound:Zah Tryz.prog C0 220 Zey.S:=sE Za8 Zey.ev (Zai ⟨Zja.sound,ZcS.sound,trivial⟩) Tryz.func220
def ZbA.S:ZaQ:=⟨0,[.sc .str],[],[.str],⟨[.str,.int .i64,.bool],.tup [.sc .str,.sc (.int .i64),.sc .bool],[]⟩,
 fun (text:Str)=>ZbA text⟩
theorem ZbA.ev:∀d,Za7 C0 (hnd (tab [(220,Zey.S)])) Tryz.f186 .u ZbA.S d=ZbA.S.F d:=fun _=>by kernel_rfl
theorem ZbA.sound:Zah Tryz.prog C0 186 ZbA.S:=sE Za8 ZbA.ev (Zai ⟨Zey.sound,trivial⟩) Tryz.func186
def ZgG.S:ZaQ:=⟨0,[.sc (.int .i64),.sc (.int .i64)],[],[.int .i64,.int .i64],⟨[.int .i64],.sc (.int .i64),[]⟩,
 fun ((year,month):Int×Int)=>ZgG year month⟩
theorem ZgG.ev:∀d,Za7 C0 (hnd (tab [])) Tryz.f149 (.seq .u (.seq (.seq .u (.blk (.join ⟨[.int .i64,.int .i64,.bool],[(0,.sc (.int .i64)),(5,.sc (.int .i64)),(6,.sc .bool)],[]⟩ .u (.cond .u (.seq .u (.cond (.seq (.seq (.reg [.bool] [(25,.sc .bool)]) .u) .u) .u)))))) .u)) ZgG.S d=ZgG.S.F d:=fun _=>by kernel_rfl
theorem ZgG.sound:Zah Tryz.prog C0 149 ZgG.S:=sE Za8 ZgG.ev (Zai trivial) Tryz.func149
def Zbp.S:ZaQ:=⟨0,[.agg [.sc (.int .i64),.sc (.int .i64),.sc (.int .i64),.sc (.int .i64),.sc (.int .i64),.sc (.int .i64)]],[],[.int .i64,.int .i64,.int .i64,.int .i64,.int .i64,.int .i64],⟨[.bool],.sc .bool,[]⟩,
 fun ((y,mo,d,h,mi,sec):Int×Int×Int×Int×Int×Int)=>Zbp y mo d h mi sec⟩
theorem Zbp.ev:∀d,Za7 C0 (hnd (tab [(116,Zhp.S),(149,ZgG.S)])) Tryz.f106 (.seq .u (.seq (.reg [.bool] [(3,.sc .bool)]) (.seq (.reg [.bool] [(2,.sc .bool)]) .u))) Zbp.S d=Zbp.S.F d:=fun _=>by kernel_rfl
theorem Zbp.sound:Zah Tryz.prog C0 106 Zbp.S:=sE Za8 Zbp.ev (Zai ⟨Zhp.sound,ZgG.sound,trivial⟩) Tryz.func106
def Zjl.S:ZaQ:=⟨0,[.agg [.sc (.int .i64),.sc (.int .i64),.sc (.int .i64),.sc (.int .i64),.sc (.int .i64),.sc (.int .i64)]],[],[.int .i64,.int .i64,.int .i64,.int .i64,.int .i64,.int .i64],⟨[.int .i64],.sc (.int .i64),[]⟩,
 fun ((y,mo,d,h,mi,sec):Int×Int×Int×Int×Int×Int)=>Zjl y mo d h mi sec⟩
theorem Zjl.ev:∀d,Za7 C0 (hnd (tab [])) Tryz.f193 .u Zjl.S d=Zjl.S.F d:=fun _=>by kernel_rfl
theorem Zjl.sound:Zah Tryz.prog C0 193 Zjl.S:=sE Za8 Zjl.ev (Zai trivial) Tryz.func193
def Zjm.S:ZaQ:=⟨0,[.sc (.int .i64)],[],[.int .i64],⟨[.int .i64,.int .i64,.int .i64,.int .i64,.int .i64,.int .i64],.agg [.sc (.int .i64),.sc (.int .i64),.sc (.int .i64),.sc (.int .i64),.sc (.int .i64),.sc (.int .i64)],[]⟩,
 fun (n:Int)=>Zjm n⟩
theorem Zjm.ev:∀d,Za7 C0 (hnd (tab [])) Tryz.f153 .u Zjm.S d=Zjm.S.F d:=fun _=>by kernel_rfl
theorem Zjm.sound:Zah Tryz.prog C0 153 Zjm.S:=sE Za8 Zjm.ev (Zai trivial) Tryz.func153
def Za5.S:ZaQ:=⟨0,[.agg [.sc .str,.sc (.int .i64),.sc (.int .i64),.sc (.int .i64),.sc (.int .i64),.sc (.int .i64),.sc (.int .i64),.sc .str]],[],[.str,.int .i64,.int .i64,.int .i64,.int .i64,.int .i64,.int .i64,.str],⟨[.bool],.sc .bool,[]⟩,
 fun ((name,y,mo,d,h,mi,sec,text):Str×Int×Int×Int×Int×Int×Int×Str)=>Za5 name y mo d h mi sec text⟩
theorem Za5.ev:∀d,Za7 C0 (hnd (tab [(94,Zap.S),(106,Zbp.S)])) Tryz.f100 (.seq .u (.seq (.reg [.bool] [(2,.sc .bool)]) .u)) Za5.S d=Za5.S.F d:=fun _=>by kernel_rfl
theorem Za5.sound:Zah Tryz.prog C0 100 Za5.S:=sE Za8 Za5.ev (Zai ⟨Zap.sound,Zbp.sound,trivial⟩) Tryz.func100
def ZaD.S:ZaQ:=⟨0,[.sc (.int .i64),.sc (.int .i64)],[],[.int .i64,.int .i64],⟨[.str],.sc .str,[]⟩,
 fun ((n,many):Int×Int)=>ZaD n many⟩
theorem ZaD.ev:∀d,Za7 C0 (hnd (tab [])) Tryz.f152 (.seq .u (.seq .u (.seq (.seq .u (.blk (.loop ⟨[.int .i64,.int .i64,.int .i64,.list [.int .u8]],[(0,.sc (.int .i64)),(1,.sc (.int .i64)),(5,.full 0),(6,.sc (.int .i64))],[.arr [.int .u8]]⟩ (fun ((n1,many1,i,out):Int×Int×Int×List Int)=>(many1-i).toNat+1) 0 ⟨[.list [.int .u8]],[(5,.full 0)],[.arr [.int .u8]]⟩ .u))) .u))) ZaD.S d=ZaD.S.F d:=fun _=>by kernel_rfl
theorem ZaD.sound:Zah Tryz.prog C0 152 ZaD.S:=sE Za8 ZaD.ev (Zai trivial) Tryz.func152
def Zcf.S:ZaQ:=⟨0,[.sc .str,.sc (.int .i64),.sc (.int .i64)],[],[.str,.int .i64,.int .i64],⟨[.int .i64],.sc (.int .i64),[]⟩,
 fun ((s,at_,many):Str×Int×Int)=>Zcf s at_ many⟩
theorem Zcf.ev:∀d,Za7 C0 (hnd (tab [])) Tryz.f115 (.seq .u (.seq .u (.seq (.seq (.reg [.bool] [(18,.sc .bool)]) .u) (.seq (.seq .u (.blk (.loop ⟨[.str,.int .i64,.int .i64,.int .i64],[(0,.sc .str),(1,.sc (.int .i64)),(7,.sc (.int .i64)),(8,.sc (.int .i64))],[]⟩ (fun ((s1,at_1,n,i):Str×Int×Int×Int)=>(i-0).toNat+2) 0 ⟨[.int .i64],[(7,.sc (.int .i64))],[]⟩ .u))) .u)))) Zcf.S d=Zcf.S.F d:=fun _=>by kernel_rfl
theorem Zcf.sound:Zah Tryz.prog C0 115 Zcf.S:=sE Za8 Zcf.ev (Zai trivial) Tryz.func115
def Zho.S:ZaQ:=⟨0,[.sc .str],[],[.str],⟨[.int .i64,.str],.tup [.sc (.int .i64),.sc .str],[]⟩,
 fun (text:Str)=>Zho text⟩
theorem Zho.ev:∀d,Za7 C0 (hnd (tab [(194,Zat.S)])) Tryz.f167 .u Zho.S d=Zho.S.F d:=fun _=>by kernel_rfl
theorem Zho.sound:Zah Tryz.prog C0 167 Zho.S:=sE Za8 Zho.ev (Zai ⟨Zat.sound,trivial⟩) Tryz.func167
def ZcP.S:ZaQ:=⟨0,[.agg [.sc .str,.sc (.int .i64),.sc (.int .i64),.sc (.int .i64),.sc (.int .i64),.sc (.int .i64),.sc (.int .i64),.sc .str]],[],[.str,.int .i64,.int .i64,.int .i64,.int .i64,.int .i64,.int .i64,.str],⟨[.str],.sc .str,[]⟩,
 fun ((name,y,mo,d,h,mi,sec,text):Str×Int×Int×Int×Int×Int×Int×Str)=>ZcP name y mo d h mi sec text⟩
theorem ZcP.ev:∀d,Za7 C0 (hnd (tab [(152,ZaD.S),(155,Zdw.S),(167,Zho.S),(193,Zjl.S)])) Tryz.f166 .u ZcP.S d=ZcP.S.F d:=fun _=>by kernel_rfl
theorem ZcP.sound:Zah Tryz.prog C0 166 ZcP.S:=sE Za8 ZcP.ev (Zai ⟨ZaD.sound,Zdw.sound,Zho.sound,Zjl.sound,trivial⟩) Tryz.func166
def Zep.S:ZaQ:=⟨0,[.agg [.sc .str,.sc (.int .i64),.sc (.int .i64),.sc (.int .i64),.sc (.int .i64),.sc (.int .i64),.sc (.int .i64),.sc .str]],[],[.str,.int .i64,.int .i64,.int .i64,.int .i64,.int .i64,.int .i64,.str],⟨[.str],.sc .str,[]⟩,
 fun ((name,y,mo,d,h,mi,sec,text):Str×Int×Int×Int×Int×Int×Int×Str)=>Zep name y mo d h mi sec text⟩
theorem Zep.ev:∀d,Za7 C0 (hnd (tab [(152,ZaD.S),(166,ZcP.S),(167,Zho.S)])) Tryz.f127 .u Zep.S d=Zep.S.F d:=fun _=>by kernel_rfl
theorem Zep.sound:Zah Tryz.prog C0 127 Zep.S:=sE Za8 Zep.ev (Zai ⟨ZaD.sound,ZcP.sound,Zho.sound,trivial⟩) Tryz.func127
def Zf4.S:ZaQ:=⟨0,[.sc (.int .i64),.sc .str],[],[.int .i64,.str],⟨[.str,.bool],.tup [.sc .str,.sc .bool],[]⟩,
 fun ((how,packed):Int×Str)=>Zf4 how packed⟩
theorem Zf4.ev:∀d,Za7 C0 (hnd (tab [(186,ZbA.S)])) Tryz.f154 (.seq .u (.seq .u (.seq .u (.seq (.reg [.str,.bool] [(4,.sc .str),(5,.sc .bool)]) .u)))) Zf4.S d=Zf4.S.F d:=fun _=>by kernel_rfl
theorem Zf4.sound:Zah Tryz.prog C0 154 Zf4.S:=sE Za8 Zf4.ev (Zai ⟨ZbA.sound,trivial⟩) Tryz.func154
def ZeC.S:ZaQ:=⟨0,[.sc .str],[],[.str],⟨[.str,.int .i64,.int .i64,.int .i64,.int .i64,.int .i64,.int .i64,.str,.int .i64,.bool],.tup [.agg [.sc .str,.sc (.int .i64),.sc (.int .i64),.sc (.int .i64),.sc (.int .i64),.sc (.int .i64),.sc (.int .i64),.sc .str],.sc (.int .i64),.sc .bool],[]⟩,
 fun (text:Str)=>ZeC text⟩
theorem ZeC.ev:∀d,Za7 C0 (hnd (tab [(100,Za5.S),(115,Zcf.S),(153,Zjm.S),(154,Zf4.S),(155,Zdw.S)])) Tryz.f120 (.seq .u (.seq .u (.seq .u (.seq (.reg [.bool] [(7,.sc .bool)]) (.seq (.seq (.reg [.bool] [(51,.sc .bool)]) .u) (.seq .u (.seq .u (.seq .u (.seq (.reg [.bool] [(10,.sc .bool)]) (.seq (.cm [(1,[0]),(2,[0]),(3,[0]),(4,[0]),(9,[0])]) .u)))))))))) ZeC.S d=ZeC.S.F d:=fun _=>by kernel_rfl
theorem ZeC.sound:Zah Tryz.prog C0 120 ZeC.S:=sE Za8 ZeC.ev (Zai ⟨Za5.sound,Zcf.sound,Zjm.sound,Zf4.sound,Zdw.sound,trivial⟩) Tryz.func120
def Zkn.S:ZaQ:=⟨0,[.sc (.list [.str,.int .i64,.int .i64,.int .i64,.int .i64,.int .i64,.int .i64,.str]),.sc .str],[],[.list [.str,.int .i64,.int .i64,.int .i64,.int .i64,.int .i64,.int .i64,.str],.str],⟨[.int .i64],.sc (.int .i64),[]⟩,
 fun ((list,name):(List (Str×Int×Int×Int×Int×Int×Int×Str))×Str)=>Zkn list name⟩
theorem Zkn.ev:∀d,Za7 C0 (hnd (tab [])) Tryz.f86 (.seq .u (.seq (.seq .u (.blk (.loopS ⟨[.list [.str,.int .i64,.int .i64,.int .i64,.int .i64,.int .i64,.int .i64,.str],.str,.int .i64],[(0,.sc (.list [.str,.int .i64,.int .i64,.int .i64,.int .i64,.int .i64,.int .i64,.str])),(1,.sc .str),(5,.sc (.int .i64))],[]⟩ (fun ((list1,name1,i):(List (Str×Int×Int×Int×Int×Int×Int×Str))×Str×Int)=>((list1.length:Int)-i).toNat+1) 0 ⟨[],[],[]⟩ .u))) .u)) Zkn.S d=Zkn.S.F d:=fun _=>by kernel_rfl
theorem Zkn.sound:Zah Tryz.prog C0 86 Zkn.S:=sE Za8 Zkn.ev (Zai trivial) Tryz.func86
end Ev
end
section
open Go Go.Proofs
set_option maxRecDepth 100000
namespace Ev
set_option maxHeartbeats 1000000
def ZaJ.S:ZaQ:=⟨0,[.sc (.list [.str,.int .i64,.int .i64,.int .i64,.int .i64,.int .i64,.int .i64,.str])],[],[.list [.str,.int .i64,.int .i64,.int .i64,.int .i64,.int .i64,.int .i64,.str]],⟨[.bool],.sc .bool,[]⟩,
 fun (list:List (Str×Int×Int×Int×Int×Int×Int×Str))=>ZaJ list⟩
theorem ZaJ.ev:∀d,Za7 C0 (hnd (tab [(86,Zkn.S),(100,Za5.S),(107,Zca.S)])) Tryz.f118 (.seq .u (.seq (.seq .u (.blk (.loopS ⟨[.list [.str,.int .i64,.int .i64,.int .i64,.int .i64,.int .i64,.int .i64,.str],.int .i64],[(0,.sc (.list [.str,.int .i64,.int .i64,.int .i64,.int .i64,.int .i64,.int .i64,.str])),(3,.sc (.int .i64))],[]⟩ (fun ((list1,i):(List (Str×Int×Int×Int×Int×Int×Int×Str))×Int)=>((list1.length:Int)-i).toNat+1) 0 ⟨[.list [.str,.int .i64,.int .i64,.int .i64,.int .i64,.int .i64,.int .i64,.str]],[(0,.sc (.list [.str,.int .i64,.int .i64,.int .i64,.int .i64,.int .i64,.int .i64,.str]))],[]⟩ (.seq .u (.seq (.blk (.seq (.seq (.reg [.bool] [(27,.sc .bool)]) .u) (.seq .u (.blk (.loopS ⟨[.list [.str,.int .i64,.int .i64,.int .i64,.int .i64,.int .i64,.int .i64,.str],.int .i64,.int .i64],[(0,.sc (.list [.str,.int .i64,.int .i64,.int .i64,.int .i64,.int .i64,.int .i64,.str])),(3,.sc (.int .i64)),(4,.sc (.int .i64))],[]⟩ (fun ((list2,i1,k):(List (Str×Int×Int×Int×Int×Int×Int×Str))×Int×Int)=>((list2.length:Int)-k).toNat+1) 2 ⟨[.list [.str,.int .i64,.int .i64,.int .i64,.int .i64,.int .i64,.int .i64,.str],.int .i64],[(0,.sc (.list [.str,.int .i64,.int .i64,.int .i64,.int .i64,.int .i64,.int .i64,.str])),(3,.sc (.int .i64))],[]⟩ .u))))) .u))))) .u)) ZaJ.S d=ZaJ.S.F d:=fun _=>by kernel_rfl
theorem ZaJ.sound:Zah Tryz.prog C0 118 ZaJ.S:=sE Za8 ZaJ.ev (Zai ⟨Zkn.sound,Za5.sound,Zca.sound,trivial⟩) Tryz.func118
def ZcU.S:ZaQ:=⟨0,[.agg [.sc .str,.sc (.int .i64),.sc (.int .i64),.sc (.int .i64),.sc (.int .i64),.sc (.int .i64),.sc (.int .i64),.sc .str],.sc (.int .i64)],[],[.str,.int .i64,.int .i64,.int .i64,.int .i64,.int .i64,.int .i64,.str,.int .i64],⟨[.str],.sc .str,[]⟩,
 fun ((name,y,mo,d,h,mi,sec,text,at_):Str×Int×Int×Int×Int×Int×Int×Str×Int)=>ZcU name y mo d h mi sec text at_⟩
theorem ZcU.ev:∀d,Za7 C0 (hnd (tab [(152,ZaD.S),(166,ZcP.S)])) Tryz.f126 .u ZcU.S d=ZcU.S.F d:=fun _=>by kernel_rfl
theorem ZcU.sound:Zah Tryz.prog C0 126 ZcU.S:=sE Za8 ZcU.ev (Zai ⟨ZaD.sound,ZcP.sound,trivial⟩) Tryz.func126
def Zhn.S:ZaQ:=⟨0,[.sc (.int .i64),.sc (.int .i64),.sc (.int .i64)],[],[.int .i64,.int .i64,.int .i64],⟨[.str],.sc .str,[]⟩,
 fun ((many,long,at_):Int×Int×Int)=>Zhn many long at_⟩
theorem Zhn.ev:∀d,Za7 C0 (hnd (tab [(152,ZaD.S)])) Tryz.f121 .u Zhn.S d=Zhn.S.F d:=fun _=>by kernel_rfl
theorem Zhn.sound:Zah Tryz.prog C0 121 Zhn.S:=sE Za8 Zhn.ev (Zai ⟨ZaD.sound,trivial⟩) Tryz.func121
def Zd6.S:ZaQ:=⟨0,[.sc (.list [.str,.int .i64,.int .i64,.int .i64,.int .i64,.int .i64,.int .i64,.str])],[],[.list [.str,.int .i64,.int .i64,.int .i64,.int .i64,.int .i64,.int .i64,.str]],⟨[.str],.sc .str,[]⟩,
 fun (list:List (Str×Int×Int×Int×Int×Int×Int×Str))=>Zd6 list⟩
theorem Zd6.ev:∀d,Za7 C0 (hnd (tab [(121,Zhn.S),(126,ZcU.S),(127,Zep.S)])) Tryz.f75 (.seq .u (.seq .u (.seq .u (.seq (.seq .u (.blk (.loop ⟨[.list [.str,.int .i64,.int .i64,.int .i64,.int .i64,.int .i64,.int .i64,.str],.str,.str,.int .i64],[(0,.sc (.list [.str,.int .i64,.int .i64,.int .i64,.int .i64,.int .i64,.int .i64,.str])),(3,.sc .str),(4,.sc .str),(5,.sc (.int .i64))],[]⟩ (fun ((list1,out,heads,i):(List (Str×Int×Int×Int×Int×Int×Int×Str))×Str×Str×Int)=>((list1.length:Int)-i).toNat+1) 0 ⟨[.list [.str,.int .i64,.int .i64,.int .i64,.int .i64,.int .i64,.int .i64,.str],.str,.str],[(0,.sc (.list [.str,.int .i64,.int .i64,.int .i64,.int .i64,.int .i64,.int .i64,.str])),(3,.sc .str),(4,.sc .str)],[]⟩ .u))) .u)))) Zd6.S d=Zd6.S.F d:=fun _=>by kernel_rfl
theorem Zd6.sound:Zah Tryz.prog C0 75 Zd6.S:=sE Za8 Zd6.ev (Zai ⟨Zhn.sound,ZcU.sound,Zep.sound,trivial⟩) Tryz.func75
def Ze5.S:ZaQ:=⟨0,[.sc .str,.sc (.int .i64)],[],[.str,.int .i64],⟨[.int .i64,.bool,.list [.str,.int .i64,.int .i64,.int .i64,.int .i64,.int .i64,.int .i64,.str]],.tup [.full 0,.sc (.int .i64),.sc .bool],[.arr [.str,.int .i64,.int .i64,.int .i64,.int .i64,.int .i64,.int .i64,.str]]⟩,
 fun ((text,many):Str×Int)=>Ze5 text many⟩
theorem Ze5.ev:∀d,Za7 C0 (hnd (tab [(120,ZeC.S)])) Tryz.f117 (.seq .u (.seq .u (.seq .u (.seq (.seq .u (.blk (.loopS ⟨[.str,.int .i64,.int .i64,.int .i64,.list [.str,.int .i64,.int .i64,.int .i64,.int .i64,.int .i64,.int .i64,.str]],[(0,.sc .str),(1,.sc (.int .i64)),(7,.full 0),(8,.sc (.int .i64)),(9,.sc (.int .i64))],[.arr [.str,.int .i64,.int .i64,.int .i64,.int .i64,.int .i64,.int .i64,.str]]⟩ (fun ((text1,many1,at_,i,out):Str×Int×Int×Int×List (Str×Int×Int×Int×Int×Int×Int×Str))=>(many1-i).toNat+1) 0 ⟨[.int .i64,.list [.str,.int .i64,.int .i64,.int .i64,.int .i64,.int .i64,.int .i64,.str]],[(7,.full 0),(8,.sc (.int .i64))],[.arr [.str,.int .i64,.int .i64,.int .i64,.int .i64,.int .i64,.int .i64,.str]]⟩ .u))) .u)))) Ze5.S d=Ze5.S.F d:=fun _=>by kernel_rfl
theorem Ze5.sound:Zah Tryz.prog C0 117 Ze5.S:=sE Za8 Ze5.ev (Zai ⟨ZeC.sound,trivial⟩) Tryz.func117
def Zf3.S:ZaQ:=⟨0,[.sc .str,.sc (.int .i64),.sc (.int .i64)],[],[.str,.int .i64,.int .i64],⟨[.int .i64,.bool],.tup [.sc (.int .i64),.sc .bool],[]⟩,
 fun ((text,head,at_):Str×Int×Int)=>Zf3 text head at_⟩
theorem Zf3.ev:∀d,Za7 C0 (hnd (tab [(115,Zcf.S),(152,ZaD.S)])) Tryz.f119 (.seq .u (.seq .u (.seq .u (.seq (.seq (.reg [.bool] [(36,.sc .bool)]) .u) (.seq (.reg [.bool] [(10,.sc .bool)]) (.seq (.reg [.bool] [(11,.sc .bool)]) (.seq (.reg [.int .i64,.bool] [(6,.sc (.int .i64)),(7,.sc .bool)]) .u))))))) Zf3.S d=Zf3.S.F d:=fun _=>by kernel_rfl
theorem Zf3.sound:Zah Tryz.prog C0 119 Zf3.S:=sE Za8 Zf3.ev (Zai ⟨Zcf.sound,ZaD.sound,trivial⟩) Tryz.func119
def Za1.S:ZaQ:=⟨0,[.sc .str],[],[.str],⟨[.bool,.list [.str,.int .i64,.int .i64,.int .i64,.int .i64,.int .i64,.int .i64,.str]],.tup [.full 0,.sc .bool],[.arr [.str,.int .i64,.int .i64,.int .i64,.int .i64,.int .i64,.int .i64,.str]]⟩,
 fun (text:Str)=>Za1 text⟩
theorem Za1.ev:∀d,Za7 C0 (hnd (tab [(115,Zcf.S),(116,Zhp.S),(117,Ze5.S),(118,ZaJ.S),(119,Zf3.S),(120,ZeC.S),(121,Zhn.S)])) Tryz.f58 (.seq .u (.seq .u (.seq .u (.seq .u (.seq (.seq (.reg [.bool] [(38,.sc .bool)]) .u) (.seq .u (.seq .u (.seq (.seq .u (.blk (.loopS ⟨[.str,.int .i64,.int .i64,.int .i64,.int .i64,.int .i64,.list [.str,.int .i64,.int .i64,.int .i64,.int .i64,.int .i64,.int .i64,.str]],[(0,.sc .str),(4,.sc (.int .i64)),(5,.full 0),(6,.sc (.int .i64)),(8,.sc (.int .i64)),(9,.sc (.int .i64)),(10,.sc (.int .i64))],[.arr [.str,.int .i64,.int .i64,.int .i64,.int .i64,.int .i64,.int .i64,.str]]⟩ (fun ((text1,many,at_,head,own,i,list):Str×Int×Int×Int×Int×Int×List (Str×Int×Int×Int×Int×Int×Int×Str))=>(many-i).toNat+1) 0 ⟨[.str,.int .i64,.int .i64,.int .i64,.list [.str,.int .i64,.int .i64,.int .i64,.int .i64,.int .i64,.int .i64,.str]],[(0,.sc .str),(4,.sc (.int .i64)),(5,.full 0),(6,.sc (.int .i64)),(8,.sc (.int .i64))],[.arr [.str,.int .i64,.int .i64,.int .i64,.int .i64,.int .i64,.int .i64,.str]]⟩ .u))) .u)))))))) Za1.S d=Za1.S.F d:=fun _=>by kernel_rfl
theorem Za1.sound:Zah Tryz.prog C0 58 Za1.S:=sE Za8 Za1.ev (Zai ⟨Zcf.sound,Zhp.sound,Ze5.sound,ZaJ.sound,Zf3.sound,ZeC.sound,Zhn.sound,trivial⟩) Tryz.func58
def Zch.S:ZaQ:=⟨0,[.sc (.list [.str,.int .i64,.int .i64,.int .i64,.int .i64,.int .i64,.int .i64,.str]),.sc .str],[],[.list [.str,.int .i64,.int .i64,.int .i64,.int .i64,.int .i64,.int .i64,.str],.str],⟨[.bool],.sc .bool,[]⟩,
 fun ((list,name):(List (Str×Int×Int×Int×Int×Int×Int×Str))×Str)=>Zch list name⟩
theorem Zch.ev:∀d,Za7 C0 (hnd (tab [(107,Zca.S)])) Tryz.f96 (.seq .u (.seq (.seq .u (.blk (.loopS ⟨[.list [.str,.int .i64,.int .i64,.int .i64,.int .i64,.int .i64,.int .i64,.str],.str,.int .i64],[(0,.sc (.list [.str,.int .i64,.int .i64,.int .i64,.int .i64,.int .i64,.int .i64,.str])),(1,.sc .str),(5,.sc (.int .i64))],[]⟩ (fun ((list1,name1,i):(List (Str×Int×Int×Int×Int×Int×Int×Str))×Str×Int)=>((list1.length:Int)-i).toNat+1) 0 ⟨[],[],[]⟩ (.seq .u (.seq (.blk (.seq (.reg [.bool] [(36,.sc .bool)]) .u)) .u))))) .u)) Zch.S d=Zch.S.F d:=fun _=>by kernel_rfl
theorem Zch.sound:Zah Tryz.prog C0 96 Zch.S:=sE Za8 Zch.ev (Zai ⟨Zca.sound,trivial⟩) Tryz.func96
def Zjk.S:ZaQ:=⟨0,[.full 0,.agg [.sc .str,.sc (.int .i64),.sc (.int .i64),.sc (.int .i64),.sc (.int .i64),.sc (.int .i64),.sc (.int .i64),.sc .str]],[.arr [.str,.int .i64,.int .i64,.int .i64,.int .i64,.int .i64,.int .i64,.str]],[.str,.int .i64,.int .i64,.int .i64,.int .i64,.int .i64,.int .i64,.str,.list [.str,.int .i64,.int .i64,.int .i64,.int .i64,.int .i64,.int .i64,.str]],⟨[.int .i64,.list [.str,.int .i64,.int .i64,.int .i64,.int .i64,.int .i64,.int .i64,.str]],.tup [.full 0,.sc (.int .i64)],[.arr [.str,.int .i64,.int .i64,.int .i64,.int .i64,.int .i64,.int .i64,.str]]⟩,
 fun ((name,y,mo,d,h,mi,sec,text,list):Str×Int×Int×Int×Int×Int×Int×Str×List (Str×Int×Int×Int×Int×Int×Int×Str))=>Zjk name y mo d h mi sec text list⟩
theorem Zjk.ev:∀d,Za7 C0 (hnd (tab [(96,Zch.S),(100,Za5.S)])) Tryz.f74 .u Zjk.S d=Zjk.S.F d:=fun _=>by kernel_rfl
theorem Zjk.sound:Zah Tryz.prog C0 74 Zjk.S:=sE Za8 Zjk.ev (Zai ⟨Zch.sound,Za5.sound,trivial⟩) Tryz.func74
def ZdF.S:ZaQ:=⟨0,[.sc (.list [.str,.str]),.agg [.sc .str,.sc .str]],[],[.list [.str,.str],.str,.str],⟨[.list [.str,.str]],.full 0,[.arr [.str,.str]]⟩,
 fun ((xs,path,text):(List (Str×Str))×Str×Str)=>ZdF xs path text⟩
theorem ZdF.ev:∀d,Za7 C0 (hnd (tab [])) Tryz.f59 (.seq .u (.seq .u (.seq (.blk (.loop ⟨[.list [.str,.str],.int .i64,.str,.str],[(0,.sc (.list [.str,.str])),(3,.ptr 0 0),(5,.sc (.int .i64))],[.box [.sc .str,.sc .str]]⟩ (fun ((t,k,o,o1):(List (Str×Str))×Int×Str×Str)=>((t.length:Int)-k).toNat+1) 0 ⟨[.list [.str,.str],.int .i64,.str,.str],[(0,.sc (.list [.str,.str])),(3,.ptr 0 0),(5,.sc (.int .i64))],[.box [.sc .str,.sc .str]]⟩ (.seq (.seq (.reg [.bool] [(19,.sc .bool)]) .u) .u))) (.seq (.seq (.reg [.bool] [(35,.sc .bool)]) .u) .u)))) ZdF.S d=ZdF.S.F d:=fun _=>by kernel_rfl
theorem ZdF.sound:Zah Tryz.prog C0 59 ZdF.S:=sE Za8 ZdF.ev (Zai trivial) Tryz.func59
def ZaB.S:ZaQ:=⟨0,[.sc (.list [.str,.str]),.sc .str],[],[.list [.str,.str],.str],⟨[.int .i64,.list [.str,.str]],.tup [.full 0,.sc (.int .i64)],[.arr [.str,.str]]⟩,
 fun ((t,text):(List (Str×Str))×Str)=>ZaB t text⟩
theorem ZaB.ev:∀d,Za7 C0 (hnd (tab [(49,Zao.S),(58,Za1.S),(59,ZdF.S)])) Tryz.f16 (.seq .u (.seq .u (.seq (.seq (.reg [.bool] [(21,.sc .bool)]) .u) (.seq .u (.seq (.seq .u (.blk (.loop ⟨[.list [.str,.str],.int .i64,.list [.str,.int .i64,.int .i64,.int .i64,.int .i64,.int .i64,.int .i64,.str],.list [.str,.str]],[(0,.sc (.list [.str,.str])),(6,.full 0),(8,.full 1),(9,.sc (.int .i64))],[.arr [.str,.int .i64,.int .i64,.int .i64,.int .i64,.int .i64,.int .i64,.str],.arr [.str,.str]]⟩ (fun ((t1,i,list,out):(List (Str×Str))×Int×(List (Str×Int×Int×Int×Int×Int×Int×Str))×List (Str×Str))=>((list.length:Int)-i).toNat+1) 0 ⟨[.list [.str,.str],.list [.str,.str]],[(0,.sc (.list [.str,.str])),(8,.full 0)],[.arr [.str,.str]]⟩ .u))) .u))))) ZaB.S d=ZaB.S.F d:=fun _=>by kernel_rfl
theorem ZaB.sound:Zah Tryz.prog C0 16 ZaB.S:=sE Za8 ZaB.ev (Zai ⟨Zao.sound,Za1.sound,ZdF.sound,trivial⟩) Tryz.func16
def ZaH.S:ZaQ:=⟨0,[.sc (.list [.str,.str]),.sc .str,.agg [.sc (.int .i64),.sc (.int .i64),.sc (.int .i64),.sc (.int .i64),.sc (.int .i64),.sc (.int .i64)]],[],[.list [.str,.str],.str,.int .i64,.int .i64,.int .i64,.int .i64,.int .i64,.int .i64],⟨[.str,.int .i64],.tup [.sc .str,.sc (.int .i64)],[]⟩,
 fun ((t,place,y,mo,d,h,mi,sec):(List (Str×Str))×Str×Int×Int×Int×Int×Int×Int)=>ZaH t place y mo d h mi sec⟩
theorem ZaH.ev:∀d,Za7 C0 (hnd (tab [(49,Zao.S),(75,Zd6.S),(94,Zap.S),(106,Zbp.S),(107,Zca.S)])) Tryz.f44 (.seq .u (.seq .u (.seq (.seq (.reg [.bool] [(27,.sc .bool)]) .u) (.seq (.seq .u (.blk (.loop ⟨[.list [.str,.str],.str,.int .i64,.int .i64,.int .i64,.int .i64,.int .i64,.int .i64,.int .i64,.list [.str,.int .i64,.int .i64,.int .i64,.int .i64,.int .i64,.int .i64,.str]],[(0,.sc (.list [.str,.str])),(1,.sc .str),(5,.ptr 0 0),(8,.full 1),(9,.sc (.int .i64))],[.box [.sc (.int .i64),.sc (.int .i64),.sc (.int .i64),.sc (.int .i64),.sc (.int .i64),.sc (.int .i64)],.arr [.str,.int .i64,.int .i64,.int .i64,.int .i64,.int .i64,.int .i64,.str]]⟩ (fun ((t1,place1,i,o,o1,o2,o3,o4,o5,list):(List (Str×Str))×Str×Int×Int×Int×Int×Int×Int×Int×List (Str×Int×Int×Int×Int×Int×Int×Str))=>((t1.length:Int)-i).toNat+1) 0 ⟨[.list [.str,.int .i64,.int .i64,.int .i64,.int .i64,.int .i64,.int .i64,.str]],[(8,.full 0)],[.arr [.str,.int .i64,.int .i64,.int .i64,.int .i64,.int .i64,.int .i64,.str]]⟩ (.seq .u (.seq (.blk (.seq (.reg [.bool] [(53,.sc .bool)]) .u)) .u))))) .u)))) ZaH.S d=ZaH.S.F d:=fun _=>by kernel_rfl
theorem ZaH.sound:Zah Tryz.prog C0 44 ZaH.S:=sE Za8 ZaH.ev (Zai ⟨Zao.sound,Zd6.sound,Zap.sound,Zbp.sound,Zca.sound,trivial⟩) Tryz.func44
def ZeD.S:ZaQ:=⟨0,[.sc (.list [.int .u8])],[],[.list [.int .u8]],⟨[.list [.int .u8],.int .i64],.ptr 0 0,[.box [.sc (.list [.int .u8]),.sc (.int .i64)]]⟩,
 fun (code_:List Int)=>ZeD code_⟩
theorem ZeD.ev:∀d,Za7 C0 (hnd (tab [])) Tryz.f68 .u ZeD.S d=ZeD.S.F d:=fun _=>by kernel_rfl
theorem ZeD.sound:Zah Tryz.prog C0 68 ZeD.S:=sE Za8 ZeD.ev (Zai trivial) Tryz.func68
def pick.S:ZaQ:=⟨1,[.ptr 0 0,.sc (.int .i64)],[.box [.sc (.list [.int .u8]),.sc (.int .i64)]],[.int .i64,.list [.int .u8],.int .i64],⟨[.int .i64,.list [.int .u8],.int .i64],.sc (.int .i64),[.box [.sc (.list [.int .u8]),.sc (.int .i64)]]⟩,
 fun ((n,b,p):Int×List Int×Int)=>pick n b p⟩
theorem pick.ev:∀d,Za7 C0 (hnd (tab [])) Tryz.f109 (.seq .u (.seq .u (.seq (.seq (.reg [.bool] [(24,.sc .bool)]) .u) .u))) pick.S d=pick.S.F d:=fun _=>by kernel_rfl
theorem pick.sound:Zah Tryz.prog C0 109 pick.S:=sE Za8 pick.ev (Zai trivial) Tryz.func109
def Zis.S:ZaQ:=⟨1,[.ptr 0 0,.sc (.list [.str])],[.box [.sc (.list [.int .u8]),.sc (.int .i64)]],[.list [.str],.list [.int .u8],.int .i64],⟨[.str,.list [.int .u8],.int .i64],.sc .str,[.box [.sc (.list [.int .u8]),.sc (.int .i64)]]⟩,
 fun ((xs,b,p):List Str×List Int×Int)=>Zis xs b p⟩
theorem Zis.ev:∀d,Za7 C0 (hnd (tab [(109,pick.S)])) Tryz.f102 .u Zis.S d=Zis.S.F d:=fun _=>by kernel_rfl
theorem Zis.sound:Zah Tryz.prog C0 102 Zis.S:=sE Za8 Zis.ev (Zai ⟨pick.sound,trivial⟩) Tryz.func102
def Zdt.S:ZaQ:=⟨0,[.sc .str,.sc (.int .i64)],[],[.str,.int .i64],⟨[.str],.sc .str,[]⟩,
 fun ((s,n):Str×Int)=>Zdt s n⟩
theorem Zdt.ev:∀d,Za7 C0 (hnd (tab [])) Tryz.f184 (.seq .u (.seq .u (.seq (.blk (.loop ⟨[.str,.int .i64,.str],[(0,.sc .str),(1,.sc (.int .i64)),(5,.sc .str)],[]⟩ (fun ((s1,n1,out):Str×Int×Str)=>n1.toNat+1) 0 ⟨[.str],[(5,.sc .str)],[]⟩ .u)) .u))) Zdt.S d=Zdt.S.F d:=fun _=>by kernel_rfl
theorem Zdt.sound:Zah Tryz.prog C0 184 Zdt.S:=sE Za8 Zdt.ev (Zai trivial) Tryz.func184
def ZbG.S:ZaQ:=⟨1,[.ptr 0 0],[.box [.sc (.list [.int .u8]),.sc (.int .i64)]],[.list [.int .u8],.int .i64],⟨[.str,.list [.int .u8],.int .i64],.sc .str,[.box [.sc (.list [.int .u8]),.sc (.int .i64)]]⟩,
 fun ((b,p):List Int×Int)=>ZbG b p⟩
theorem ZbG.ev:∀d,Za7 C0 (hnd (tab [(102,Zis.S),(109,pick.S),(184,Zdt.S)])) Tryz.f183 (.seq .u (.seq (.seq .u (.blk (.seq .u (.cond .u (.seq .u (.cond .u (.seq .u (.cond (.seq .u (.seq (.seq .u (.blk (.loop ⟨[.int .i64,.list [.int .u8],.int .i64,.list [.int .u8]],[(0,.ptr 0 0),(3,.full 1),(4,.sc (.int .i64))],[.box [.sc (.list [.int .u8]),.sc (.int .i64)],.arr [.int .u8]]⟩ (fun ((n,o,o1,out):Int×List Int×Int×List Int)=>(n-0).toNat+1) 1 ⟨[.list [.int .u8],.int .i64,.list [.int .u8]],[(3,.full 1)],[.box [.sc (.list [.int .u8]),.sc (.int .i64)],.arr [.int .u8]]⟩ .u))) .u)) .u)))))))) (.seq .u (.seq (.seq .u (.blk (.loop ⟨[.str,.int .i64,.list [.int .u8],.int .i64],[(0,.ptr 0 0),(5,.sc .str),(6,.sc (.int .i64))],[.box [.sc (.list [.int .u8]),.sc (.int .i64)]]⟩ (fun ((out2,n1,o4,o5):Str×Int×List Int×Int)=>(n1-0).toNat+1) 3 ⟨[.str,.list [.int .u8],.int .i64],[(5,.sc .str)],[.box [.sc (.list [.int .u8]),.sc (.int .i64)]]⟩ .u))) .u)))) ZbG.S d=ZbG.S.F d:=fun _=>by kernel_rfl
theorem ZbG.sound:Zah Tryz.prog C0 183 ZbG.S:=sE Za8 ZbG.ev (Zai ⟨Zis.sound,pick.sound,Zdt.sound,trivial⟩) Tryz.func183
def Zct.S:ZaQ:=⟨1,[.ptr 0 0],[.box [.sc (.list [.int .u8]),.sc (.int .i64)]],[.list [.int .u8],.int .i64],⟨[.str,.list [.int .u8],.int .i64],.sc .str,[.box [.sc (.list [.int .u8]),.sc (.int .i64)]]⟩,
 fun ((b,p):List Int×Int)=>Zct b p⟩
theorem Zct.ev:∀d,Za7 C0 (hnd (tab [(109,pick.S),(183,ZbG.S),(184,Zdt.S)])) Tryz.f143 .u Zct.S d=Zct.S.F d:=fun _=>by kernel_rfl
theorem Zct.sound:Zah Tryz.prog C0 143 Zct.S:=sE Za8 Zct.ev (Zai ⟨pick.sound,ZbG.sound,Zdt.sound,trivial⟩) Tryz.func143
def Zcj.S:ZaQ:=⟨1,[.ptr 0 0],[.box [.sc (.list [.int .u8]),.sc (.int .i64)]],[.list [.int .u8],.int .i64],⟨[.str,.list [.int .u8],.int .i64],.sc .str,[.box [.sc (.list [.int .u8]),.sc (.int .i64)]]⟩,
 fun ((b,p):List Int×Int)=>Zcj b p⟩
theorem Zcj.ev:∀d,Za7 C0 (hnd (tab [(102,Zis.S)])) Tryz.f88 .u Zcj.S d=Zcj.S.F d:=fun _=>by kernel_rfl
theorem Zcj.sound:Zah Tryz.prog C0 88 Zcj.S:=sE Za8 Zcj.ev (Zai ⟨Zis.sound,trivial⟩) Tryz.func88
def Zbz.S:ZaQ:=⟨1,[.ptr 0 0],[.box [.sc (.list [.int .u8]),.sc (.int .i64)]],[.list [.int .u8],.int .i64],⟨[.str,.list [.int .u8],.int .i64],.sc .str,[.box [.sc (.list [.int .u8]),.sc (.int .i64)]]⟩,
 fun ((b,p):List Int×Int)=>Zbz b p⟩
theorem Zbz.ev:∀d,Za7 C0 (hnd (tab [(88,Zcj.S),(102,Zis.S),(109,pick.S)])) Tryz.f89 .u Zbz.S d=Zbz.S.F d:=fun _=>by kernel_rfl
theorem Zbz.sound:Zah Tryz.prog C0 89 Zbz.S:=sE Za8 Zbz.ev (Zai ⟨Zcj.sound,Zis.sound,pick.sound,trivial⟩) Tryz.func89
end Ev
end
section
open Go Go.Proofs
set_option maxRecDepth 100000
namespace Ev
set_option maxHeartbeats 1000000
def Zdh.S:ZaQ:=⟨1,[.ptr 0 0],[.box [.sc (.list [.int .u8]),.sc (.int .i64)]],[.list [.int .u8],.int .i64],⟨[.list [.int .u8],.int .i64,.list [.str,.str]],.full 1,[.box [.sc (.list [.int .u8]),.sc (.int .i64)],.arr [.str,.str]]⟩,
 fun ((b,p):List Int×Int)=>Zdh b p⟩
theorem Zdh.ev:∀d,Za7 C0 (hnd (tab [(49,Zao.S),(59,ZdF.S),(88,Zcj.S),(109,pick.S),(183,ZbG.S)])) Tryz.f144 (.seq .u (.seq .u (.seq (.seq .u (.blk (.loop ⟨[.int .i64,.list [.int .u8],.int .i64,.list [.str,.str]],[(0,.ptr 0 0),(3,.full 1),(4,.sc (.int .i64))],[.box [.sc (.list [.int .u8]),.sc (.int .i64)],.arr [.str,.str]]⟩ (fun ((n,o,o1,out):Int×List Int×Int×List (Str×Str))=>(n-0).toNat+1) 0 ⟨[.list [.int .u8],.int .i64,.list [.str,.str]],[(3,.full 1)],[.box [.sc (.list [.int .u8]),.sc (.int .i64)],.arr [.str,.str]]⟩ .u))) .u))) Zdh.S d=Zdh.S.F d:=fun _=>by kernel_rfl
theorem Zdh.sound:Zah Tryz.prog C0 144 Zdh.S:=sE Za8 Zdh.ev (Zai ⟨Zao.sound,ZdF.sound,Zcj.sound,pick.sound,ZbG.sound,trivial⟩) Tryz.func144
def ZbK.S:ZaQ:=⟨1,[.ptr 0 0],[.box [.sc (.list [.int .u8]),.sc (.int .i64)]],[.list [.int .u8],.int .i64],⟨[.list [.int .u8],.int .i64,.list [.str,.str]],.full 1,[.box [.sc (.list [.int .u8]),.sc (.int .i64)],.arr [.str,.str]]⟩,
 fun ((b,p):List Int×Int)=>ZbK b p⟩
theorem ZbK.ev:∀d,Za7 C0 (hnd (tab [(89,Zbz.S),(109,pick.S),(143,Zct.S),(144,Zdh.S)])) Tryz.f101 .u ZbK.S d=ZbK.S.F d:=fun _=>by kernel_rfl
theorem ZbK.sound:Zah Tryz.prog C0 101 ZbK.S:=sE Za8 ZbK.ev (Zai ⟨Zbz.sound,pick.sound,Zct.sound,Zdh.sound,trivial⟩) Tryz.func101
def Zcl.S:ZaQ:=⟨0,[.sc (.list [.str,.str]),.sc (.list [.str,.str])],[],[.list [.str,.str],.list [.str,.str]],⟨[.bool],.sc .bool,[]⟩,
 fun ((xs,ys):(List (Str×Str))×List (Str×Str))=>Zcl xs ys⟩
theorem Zcl.ev:∀d,Za7 C0 (hnd (tab [])) Tryz.f46 (.seq .u (.seq .u (.seq (.seq .u (.blk (.loopS ⟨[.list [.str,.str],.list [.str,.str],.int .i64],[(0,.sc (.list [.str,.str])),(1,.sc (.list [.str,.str])),(5,.sc (.int .i64))],[]⟩ (fun ((a,b,i):(List (Str×Str))×(List (Str×Str))×Int)=>((a.length:Int)-i).toNat+1) 0 ⟨[],[],[]⟩ .u))) .u))) Zcl.S d=Zcl.S.F d:=fun _=>by kernel_rfl
theorem Zcl.sound:Zah Tryz.prog C0 46 Zcl.S:=sE Za8 Zcl.ev (Zai trivial) Tryz.func46
def Zif.S:ZaQ:=⟨0,[.sc (.list [.str,.str]),.sc .str],[],[.list [.str,.str],.str],⟨[.int .i64],.sc (.int .i64),[]⟩,
 fun ((xs,path):(List (Str×Str))×Str)=>Zif xs path⟩
theorem Zif.ev:∀d,Za7 C0 (hnd (tab [])) Tryz.f45 (.seq .u (.seq (.seq .u (.blk (.loopS ⟨[.list [.str,.str],.str,.int .i64],[(0,.sc (.list [.str,.str])),(1,.sc .str),(5,.sc (.int .i64))],[]⟩ (fun ((t,path1,i):(List (Str×Str))×Str×Int)=>((t.length:Int)-i).toNat+1) 0 ⟨[],[],[]⟩ .u))) .u)) Zif.S d=Zif.S.F d:=fun _=>by kernel_rfl
theorem Zif.sound:Zah Tryz.prog C0 45 Zif.S:=sE Za8 Zif.ev (Zai trivial) Tryz.func45
def ZeS.S:ZaQ:=⟨0,[.sc (.list [.str]),.sc .str],[],[.list [.str],.str],⟨[.bool],.sc .bool,[]⟩,
 fun ((xs,s):List Str×Str)=>ZeS xs s⟩
theorem ZeS.ev:∀d,Za7 C0 (hnd (tab [])) Tryz.f50 (.seq .u (.seq (.seq .u (.blk (.loopS ⟨[.list [.str],.str,.int .i64],[(0,.sc (.list [.str])),(1,.sc .str),(5,.sc (.int .i64))],[]⟩ (fun ((list,s1,i):List Str×Str×Int)=>((list.length:Int)-i).toNat+1) 0 ⟨[],[],[]⟩ .u))) .u)) ZeS.S d=ZeS.S.F d:=fun _=>by kernel_rfl
theorem ZeS.sound:Zah Tryz.prog C0 50 ZeS.S:=sE Za8 ZeS.ev (Zai trivial) Tryz.func50
def Zbi.S:ZaQ:=⟨0,[.sc (.int .i64)],[],[.int .i64],⟨[.str],.sc .str,[]⟩,
 fun (k:Int)=>Zbi k⟩
theorem Zbi.ev:∀d,Za7 C0 (hnd (tab [])) Tryz.f67 (.seq .u (.seq .u (.seq .u (.seq (.blk (.loop ⟨[.int .i64,.str],[(0,.sc (.int .i64)),(3,.sc .str)],[]⟩ (fun ((k1,out):Int×Str)=>(k1-0).toNat+1) 0 ⟨[.str],[(3,.sc .str)],[]⟩ .u)) .u)))) Zbi.S d=Zbi.S.F d:=fun _=>by kernel_rfl
theorem Zbi.sound:Zah Tryz.prog C0 67 Zbi.S:=sE Za8 Zbi.ev (Zai trivial) Tryz.func67
def Zbg.S:ZaQ:=⟨1,[.full 0,.sc (.int .i64)],[.arr [.str,.str]],[.int .i64,.list [.str,.str]],⟨[.int .i64,.list [.str,.str]],.sc (.int .i64),[.arr [.str,.str]]⟩,
 fun ((k,xs):Int×List (Str×Str))=>Zbg k xs⟩
theorem Zbg.ev:∀d,Za7 C0 (hnd (tab [(67,Zbi.S)])) Tryz.f20 (.seq .u (.seq (.seq .u (.blk (.loop ⟨[.int .i64,.int .i64,.list [.str,.str]],[(0,.full 0),(1,.sc (.int .i64)),(5,.sc (.int .i64))],[.arr [.str,.str]]⟩ (fun ((k1,i,a):Int×Int×List (Str×Str))=>((a.length:Int)-i).toNat+1) 0 ⟨[.int .i64,.list [.str,.str]],[(1,.sc (.int .i64))],[.arr [.str,.str]]⟩ .u))) .u)) Zbg.S d=Zbg.S.F d:=fun _=>by kernel_rfl
theorem Zbg.sound:Zah Tryz.prog C0 20 Zbg.S:=sE Za8 Zbg.ev (Zai ⟨Zbi.sound,trivial⟩) Tryz.func20
def Zbh.S:ZaQ:=⟨0,[.sc (.list [.str,.str]),.sc (.int .i64)],[],[.list [.str,.str],.int .i64],⟨[.int .i64],.sc (.int .i64),[]⟩,
 fun ((xs,k):(List (Str×Str))×Int)=>Zbh xs k⟩
theorem Zbh.ev:∀d,Za7 C0 (hnd (tab [(67,Zbi.S)])) Tryz.f21 (.seq .u (.seq (.seq .u (.blk (.loopS ⟨[.list [.str,.str],.int .i64,.int .i64],[(0,.sc (.list [.str,.str])),(1,.sc (.int .i64)),(5,.sc (.int .i64))],[]⟩ (fun ((a,k1,i):(List (Str×Str))×Int×Int)=>((a.length:Int)-i).toNat+1) 0 ⟨[.int .i64],[(1,.sc (.int .i64))],[]⟩ .u))) .u)) Zbh.S d=Zbh.S.F d:=fun _=>by kernel_rfl
theorem Zbh.sound:Zah Tryz.prog C0 21 Zbh.S:=sE Za8 Zbh.ev (Zai ⟨Zbi.sound,trivial⟩) Tryz.func21
def Zgk.S:ZaQ:=⟨1,[.ptr 0 0,.sc (.list [.int .i64])],[.box [.sc (.list [.int .u8]),.sc (.int .i64)]],[.list [.int .i64],.list [.int .u8],.int .i64],⟨[.int .i64,.list [.int .u8],.int .i64],.sc (.int .i64),[.box [.sc (.list [.int .u8]),.sc (.int .i64)]]⟩,
 fun ((xs,b,p):List Int×List Int×Int)=>Zgk xs b p⟩
theorem Zgk.ev:∀d,Za7 C0 (hnd (tab [(109,pick.S)])) Tryz.f108 .u Zgk.S d=Zgk.S.F d:=fun _=>by kernel_rfl
theorem Zgk.sound:Zah Tryz.prog C0 108 Zgk.S:=sE Za8 Zgk.ev (Zai ⟨pick.sound,trivial⟩) Tryz.func108
def Zes.S:ZaQ:=⟨1,[.ptr 0 0,.sc .str],[.box [.sc (.list [.int .u8]),.sc (.int .i64)]],[.str,.list [.int .u8],.int .i64],⟨[.str,.list [.int .u8],.int .i64],.sc .str,[.box [.sc (.list [.int .u8]),.sc (.int .i64)]]⟩,
 fun ((s,b,p):Str×List Int×Int)=>Zes s b p⟩
theorem Zes.ev:∀d,Za7 C0 (hnd (tab [(102,Zis.S),(109,pick.S)])) Tryz.f70 (.seq .u (.seq .u (.seq .u (.seq (.seq .u (.blk (.seq .u (.cond (.seq (.cm [(0,[0]),(1,[0]),(2,[0])]) .u) .u)))) .u)))) Zes.S d=Zes.S.F d:=fun _=>by kernel_rfl
theorem Zes.sound:Zah Tryz.prog C0 70 Zes.S:=sE Za8 Zes.ev (Zai ⟨Zis.sound,pick.sound,trivial⟩) Tryz.func70
def Zcc.S:ZaQ:=⟨1,[.ptr 0 0],[.box [.sc (.list [.int .u8]),.sc (.int .i64)]],[.list [.int .u8],.int .i64],⟨[.int .i64,.int .i64,.int .i64,.int .i64,.int .i64,.int .i64,.list [.int .u8],.int .i64],.agg [.sc (.int .i64),.sc (.int .i64),.sc (.int .i64),.sc (.int .i64),.sc (.int .i64),.sc (.int .i64)],[.box [.sc (.list [.int .u8]),.sc (.int .i64)]]⟩,
 fun ((b,p):List Int×Int)=>Zcc b p⟩
theorem Zcc.ev:∀d,Za7 C0 (hnd (tab [(108,Zgk.S),(109,pick.S)])) Tryz.f145 .u Zcc.S d=Zcc.S.F d:=fun _=>by kernel_rfl
theorem Zcc.sound:Zah Tryz.prog C0 145 Zcc.S:=sE Za8 Zcc.ev (Zai ⟨Zgk.sound,pick.sound,trivial⟩) Tryz.func145
def Zb3.S:ZaQ:=⟨1,[.ptr 0 0],[.box [.sc (.list [.int .u8]),.sc (.int .i64)]],[.list [.int .u8],.int .i64],⟨[.int .i64,.int .i64,.int .i64,.int .i64,.int .i64,.int .i64,.list [.int .u8],.int .i64],.agg [.sc (.int .i64),.sc (.int .i64),.sc (.int .i64),.sc (.int .i64),.sc (.int .i64),.sc (.int .i64)],[.box [.sc (.list [.int .u8]),.sc (.int .i64)]]⟩,
 fun ((b,p):List Int×Int)=>Zb3 b p⟩
theorem Zb3.ev:∀d,Za7 C0 (hnd (tab [(108,Zgk.S),(109,pick.S),(145,Zcc.S)])) Tryz.f103 .u Zb3.S d=Zb3.S.F d:=fun _=>by kernel_rfl
theorem Zb3.sound:Zah Tryz.prog C0 103 Zb3.S:=sE Za8 Zb3.ev (Zai ⟨Zgk.sound,pick.sound,Zcc.sound,trivial⟩) Tryz.func103
def ZdE.S:ZaQ:=⟨1,[.ptr 0 0],[.box [.sc (.list [.int .u8]),.sc (.int .i64)]],[.list [.int .u8],.int .i64],⟨[.str,.int .i64,.int .i64,.int .i64,.int .i64,.int .i64,.int .i64,.str,.list [.int .u8],.int .i64],.agg [.sc .str,.sc (.int .i64),.sc (.int .i64),.sc (.int .i64),.sc (.int .i64),.sc (.int .i64),.sc (.int .i64),.sc .str],[.box [.sc (.list [.int .u8]),.sc (.int .i64)]]⟩,
 fun ((b,p):List Int×Int)=>ZdE b p⟩
theorem ZdE.ev:∀d,Za7 C0 (hnd (tab [(88,Zcj.S),(145,Zcc.S),(183,ZbG.S)])) Tryz.f142 .u ZdE.S d=ZdE.S.F d:=fun _=>by kernel_rfl
theorem ZdE.sound:Zah Tryz.prog C0 142 ZdE.S:=sE Za8 ZdE.ev (Zai ⟨Zcj.sound,Zcc.sound,ZbG.sound,trivial⟩) Tryz.func142
def Zbn.S:ZaQ:=⟨1,[.ptr 0 0],[.box [.sc (.list [.int .u8]),.sc (.int .i64)]],[.list [.int .u8],.int .i64],⟨[.list [.int .u8],.int .i64,.list [.str,.int .i64,.int .i64,.int .i64,.int .i64,.int .i64,.int .i64,.str]],.full 1,[.box [.sc (.list [.int .u8]),.sc (.int .i64)],.arr [.str,.int .i64,.int .i64,.int .i64,.int .i64,.int .i64,.int .i64,.str]]⟩,
 fun ((b,p):List Int×Int)=>Zbn b p⟩
theorem Zbn.ev:∀d,Za7 C0 (hnd (tab [(74,Zjk.S),(109,pick.S),(142,ZdE.S),(145,Zcc.S),(151,Zgn.S)])) Tryz.f125 (.seq .u (.seq .u (.seq (.seq .u (.blk (.loop ⟨[.int .i64,.list [.int .u8],.int .i64,.list [.str,.int .i64,.int .i64,.int .i64,.int .i64,.int .i64,.int .i64,.str]],[(0,.ptr 0 0),(3,.full 1),(4,.sc (.int .i64))],[.box [.sc (.list [.int .u8]),.sc (.int .i64)],.arr [.str,.int .i64,.int .i64,.int .i64,.int .i64,.int .i64,.int .i64,.str]]⟩ (fun ((n,o,o1,out):Int×List Int×Int×List (Str×Int×Int×Int×Int×Int×Int×Str))=>(n-0).toNat+1) 0 ⟨[.list [.int .u8],.int .i64,.list [.str,.int .i64,.int .i64,.int .i64,.int .i64,.int .i64,.int .i64,.str]],[(0,.ptr 0 0),(3,.full 1)],[.box [.sc (.list [.int .u8]),.sc (.int .i64)],.arr [.str,.int .i64,.int .i64,.int .i64,.int .i64,.int .i64,.int .i64,.str]]⟩ .u))) (.seq (.seq .u (.cond (.seq .u (.blk (.loop ⟨[.int .i64,.list [.int .u8],.int .i64,.list [.str,.int .i64,.int .i64,.int .i64,.int .i64,.int .i64,.int .i64,.str]],[(0,.ptr 0 0),(3,.full 1),(5,.sc (.int .i64))],[.box [.sc (.list [.int .u8]),.sc (.int .i64)],.arr [.str,.int .i64,.int .i64,.int .i64,.int .i64,.int .i64,.int .i64,.str]]⟩ (fun ((n1,o4,o5,out2):Int×List Int×Int×List (Str×Int×Int×Int×Int×Int×Int×Str))=>(6-n1).toNat+1) 2 ⟨[.list [.int .u8],.int .i64,.list [.str,.int .i64,.int .i64,.int .i64,.int .i64,.int .i64,.int .i64,.str]],[(3,.full 1)],[.box [.sc (.list [.int .u8]),.sc (.int .i64)],.arr [.str,.int .i64,.int .i64,.int .i64,.int .i64,.int .i64,.int .i64,.str]]⟩ .u))) .u)) .u)))) Zbn.S d=Zbn.S.F d:=fun _=>by kernel_rfl
theorem Zbn.sound:Zah Tryz.prog C0 125 Zbn.S:=sE Za8 Zbn.ev (Zai ⟨Zjk.sound,pick.sound,ZdE.sound,Zcc.sound,Zgn.sound,trivial⟩) Tryz.func125
def Zf5.S:ZaQ:=⟨1,[.ptr 0 0],[.box [.sc (.list [.int .u8]),.sc (.int .i64)]],[.list [.int .u8],.int .i64],⟨[.str,.list [.int .u8],.int .i64],.sc .str,[.box [.sc (.list [.int .u8]),.sc (.int .i64)]]⟩,
 fun ((b,p):List Int×Int)=>Zf5 b p⟩
theorem Zf5.ev:∀d,Za7 C0 (hnd (tab [(75,Zd6.S),(125,Zbn.S)])) Tryz.f69 .u Zf5.S d=Zf5.S.F d:=fun _=>by kernel_rfl
theorem Zf5.sound:Zah Tryz.prog C0 69 Zf5.S:=sE Za8 Zf5.ev (Zai ⟨Zd6.sound,Zbn.sound,trivial⟩) Tryz.func69
def ZbJ.S:ZaQ:=⟨0,[.sc (.list [.int .u8])],[],[.list [.int .u8]],⟨[.str,.list [.str,.str]],.tup [.full 0,.sc .str],[.arr [.str,.str]]⟩,
 fun (code_:List Int)=>ZbJ code_⟩
theorem ZbJ.ev:∀d,Za7 C0 (hnd (tab [(68,ZeD.S),(69,Zf5.S),(70,Zes.S),(101,ZbK.S)])) Tryz.f48 .u ZbJ.S d=ZbJ.S.F d:=fun _=>by kernel_rfl
theorem ZbJ.sound:Zah Tryz.prog C0 48 ZbJ.S:=sE Za8 ZbJ.ev (Zai ⟨ZeD.sound,Zf5.sound,Zes.sound,ZbK.sound,trivial⟩) Tryz.func48
def Zbw.S:ZaQ:=⟨0,[.sc (.list [.int .u8])],[],[.list [.int .u8]],⟨[.str,.int .i64,.int .i64,.int .i64,.int .i64,.int .i64,.int .i64,.list [.str,.str]],.tup [.full 0,.sc .str,.agg [.sc (.int .i64),.sc (.int .i64),.sc (.int .i64),.sc (.int .i64),.sc (.int .i64),.sc (.int .i64)]],[.arr [.str,.str]]⟩,
 fun (code_:List Int)=>Zbw code_⟩
theorem Zbw.ev:∀d,Za7 C0 (hnd (tab [(68,ZeD.S),(89,Zbz.S),(101,ZbK.S),(102,Zis.S),(103,Zb3.S)])) Tryz.f42 .u Zbw.S d=Zbw.S.F d:=fun _=>by kernel_rfl
theorem Zbw.sound:Zah Tryz.prog C0 42 Zbw.S:=sE Za8 Zbw.ev (Zai ⟨ZeD.sound,Zbz.sound,ZbK.sound,Zis.sound,Zb3.sound,trivial⟩) Tryz.func42
end Ev
end
section
open Go Go.Proofs
set_option maxRecDepth 100000
namespace Ev
set_option maxHeartbeats 1000000
def FnTreeZip.S:ZaQ:=⟨0,[.sc (.list [.int .u8])],[],[.list [.int .u8]],⟨[.bool],.sc .bool,[]⟩,
 fun (code_:List Int)=>FnTreeZip code_⟩
theorem FnTreeZip.ev:∀d,Za7 C0 (hnd (tab [(18,ZaT.S),(42,Zbw.S),(43,ZbQ.S),(44,ZaH.S),(45,Zif.S)])) Tryz.f11 (.seq .u (.seq .u (.seq .u (.seq .u (.seq .u (.seq (.seq (.reg [.bool] [(50,.sc .bool)]) (.cond (.seq (.reg [.bool] [(2,.sc .bool)]) .u) .u)) (.seq .u (.seq .u (.seq (.seq .u (.blk (.loopS ⟨[.str,.int .i64,.int .i64,.int .i64,.list [.str,.str],.list [.str,.str]],[(3,.full 0),(4,.sc .str),(10,.full 1),(11,.sc (.int .i64)),(12,.sc (.int .i64)),(13,.sc (.int .i64))],[.arr [.str,.str],.arr [.str,.str]]⟩ (fun ((place,code2,n,i,t,x):Str×Int×Int×Int×(List (Str×Str))×List (Str×Str))=>((t.length:Int)-i).toNat+1) 0 ⟨[.int .i64,.int .i64,.list [.str,.str]],[(10,.full 0),(11,.sc (.int .i64)),(12,.sc (.int .i64))],[.arr [.str,.str]]⟩ (.seq .u (.seq (.blk (.seq .u (.seq (.reg [.bool] [(15,.sc .bool)]) (.seq (.seq (.reg [.bool] [(128,.sc .bool)]) .u) .u)))) .u))))) (.seq (.reg [.bool] [(2,.sc .bool)]) .u)))))))))) FnTreeZip.S d=FnTreeZip.S.F d:=fun _=>by kernel_rfl
def FnTreeBack.S:ZaQ:=⟨0,[.sc (.list [.int .u8])],[],[.list [.int .u8]],⟨[.bool],.sc .bool,[]⟩,
 fun (code_:List Int)=>FnTreeBack code_⟩
theorem FnTreeBack.ev:∀d,Za7 C0 (hnd (tab [(18,ZaT.S),(42,Zbw.S),(43,ZbQ.S),(44,ZaH.S),(46,Zcl.S),(47,Zau.S)])) Tryz.f12 (.seq .u (.seq .u (.seq .u (.seq .u (.seq .u (.seq (.seq (.reg [.bool] [(46,.sc .bool)]) (.cond (.seq (.reg [.bool] [(2,.sc .bool)]) .u) .u)) (.seq .u (.seq (.reg [.bool] [(2,.sc .bool)]) .u)))))))) FnTreeBack.S d=FnTreeBack.S.F d:=fun _=>by kernel_rfl
def FnTreeTake.S:ZaQ:=⟨0,[.sc (.list [.int .u8])],[],[.list [.int .u8]],⟨[.bool],.sc .bool,[]⟩,
 fun (code_:List Int)=>FnTreeTake code_⟩
theorem FnTreeTake.ev:∀d,Za7 C0 (hnd (tab [(16,ZaB.S),(18,ZaT.S),(25,Zck.S),(36,Zdy.S),(45,Zif.S),(46,Zcl.S),(47,Zau.S),(48,ZbJ.S),(49,Zao.S),(50,ZeS.S)])) Tryz.f13 (.seq .u (.seq .u (.seq .u (.seq .u (.seq .u (.seq (.seq (.reg [.bool] [(57,.sc .bool)]) (.cond (.seq (.reg [.bool] [(2,.sc .bool)]) .u) .u)) (.seq .u (.seq .u (.seq (.seq .u (.blk (.loopS ⟨[.str,.int .i64,.list [.str,.str],.list [.str,.str],.list [.str,.int .i64,.int .i64,.int .i64,.int .i64,.int .i64,.int .i64,.str],.list [.str]],[(3,.full 0),(4,.sc .str),(5,.full 1),(9,.full 2),(11,.full 3),(12,.sc (.int .i64))],[.arr [.str,.str],.arr [.str,.str],.arr [.str,.int .i64,.int .i64,.int .i64,.int .i64,.int .i64,.int .i64,.str],.arr [.str]]⟩ (fun ((s,i,t,x,list,names):Str×Int×(List (Str×Str))×(List (Str×Str))×(List (Str×Int×Int×Int×Int×Int×Int×Str))×List Str)=>((list.length:Int)-i).toNat+1) 0 ⟨[.str,.list [.str,.str],.list [.str,.str],.list [.str,.int .i64,.int .i64,.int .i64,.int .i64,.int .i64,.int .i64,.str],.list [.str]],[(3,.full 0),(4,.sc .str),(5,.full 1),(9,.full 2),(11,.full 3)],[.arr [.str,.str],.arr [.str,.str],.arr [.str,.int .i64,.int .i64,.int .i64,.int .i64,.int .i64,.int .i64,.str],.arr [.str]]⟩ (.seq .u (.seq (.blk (.seq .u (.seq (.reg [.bool] [(117,.sc .bool)]) .u))) .u))))) (.seq (.seq .u (.blk (.loopS ⟨[.str,.int .i64,.list [.str,.str],.list [.str,.str],.list [.str,.int .i64,.int .i64,.int .i64,.int .i64,.int .i64,.int .i64,.str],.list [.str]],[(3,.full 0),(4,.sc .str),(5,.full 1),(9,.full 2),(11,.full 3),(14,.sc (.int .i64))],[.arr [.str,.str],.arr [.str,.str],.arr [.str,.int .i64,.int .i64,.int .i64,.int .i64,.int .i64,.int .i64,.str],.arr [.str]]⟩ (fun ((s2,i1,t2,x2,list2,names2):Str×Int×(List (Str×Str))×(List (Str×Str))×(List (Str×Int×Int×Int×Int×Int×Int×Str))×List Str)=>((t2.length:Int)-i1).toNat+1) 2 ⟨[.str,.list [.str,.str],.list [.str,.str],.list [.str,.int .i64,.int .i64,.int .i64,.int .i64,.int .i64,.int .i64,.str]],[(3,.full 0),(4,.sc .str),(5,.full 1),(9,.full 2)],[.arr [.str,.str],.arr [.str,.str],.arr [.str,.int .i64,.int .i64,.int .i64,.int .i64,.int .i64,.int .i64,.str]]⟩ (.seq .u (.seq (.blk (.seq .u (.seq (.reg [.bool] [(153,.sc .bool)]) .u))) .u))))) (.seq .u (.seq (.reg [.bool] [(2,.sc .bool)]) .u)))))))))))) FnTreeTake.S d=FnTreeTake.S.F d:=fun _=>by kernel_rfl
def FnExactTreeTake.S:ZaQ:=⟨0,[.sc (.list [.str,.str]),.sc .str],[],[.list [.str,.str],.str],⟨[.bool],.sc .bool,[]⟩,
 fun ((t,text):(List (Str×Str))×Str)=>FnExactTreeTake t text⟩
theorem FnExactTreeTake.ev:∀d,Za7 C0 (hnd (tab [(15,Zb8.S),(16,ZaB.S),(17,ZbW.S),(18,ZaT.S),(19,ZbZ.S),(20,Zbg.S),(21,Zbh.S)])) Tryz.f3 (.seq .u (.seq .u (.seq .u (.seq .u (.seq .u (.seq .u (.seq .u (.seq .u (.seq (.seq (.reg [.bool] [(47,.sc .bool)]) .u) (.seq .u (.seq .u (.seq .u (.seq (.seq (.reg [.bool] [(68,.sc .bool)]) .u) (.seq .u (.seq .u (.seq .u (.seq .u (.seq .u (.seq .u (.seq .u (.seq (.seq (.reg [.bool] [(95,.sc .bool)]) .u) .u))))))))))))))))))))) FnExactTreeTake.S d=FnExactTreeTake.S.F d:=fun _=>by kernel_rfl
end Ev
end

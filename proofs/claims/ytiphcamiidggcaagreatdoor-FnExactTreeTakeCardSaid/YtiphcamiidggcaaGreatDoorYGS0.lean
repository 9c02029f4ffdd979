/- Library functions by the kit's own contracts. Conditions: as stated. -/
import Derived.Shelf.Strings.OnBuilder
import Derived.Lib.ItoaNum
import Derived.Shelf.LaysM
import Derived.Shelf.Strconv.Itoa3
import Derived.Shelf.SlGeneric
import Derived.Ground.SlsfProg
import Derived.Shelf.SlLaysF0
import Derived.Test.YtiphcamiidggcaaGreatDoorProg
import Derived.Shelf.SlSortCmp.NoneTotal
import Derived.Test.YtiphcamiidggcaaGreatDoorYGA2
set_option linter.unusedVariables false
set_option linter.unusedSimpArgs false
section
namespace Ev
open Go Go.Proofs Go.Shelf
theorem Zsi {P:Program} {C:Ctx} {f:Nat} {fn:Func} {sargs:List Tp} {ids ods:List DT} {res:Tp} {F:Den ids→Option (Den ods)} (hf:P.funcs[f]? = some fn) (hname:(fn.name == "runtime.NumGoroutine")=false) (hb:fn.body.isNone=false)
  (hwf:(ZaQ.mk 0 sargs [] ids ⟨ods,res,[]⟩ F).wf=true)
  (h:∀(d:Den ids) (r:Den ods),F d=some r→∀(ι:Nat→Option Value) (N:Nat→Prop) (w:World) (vs:Array Value),(∀b,N b→b<w.heap.size)→VRL ι N w (Tp.insts (fun j=>j) sargs (Den.list ids d)).1 vs.toList→
   Calls P f vs w fun e w'=>∃val,e=.returned val∧RowKit.Below w.heap.size w w'∧VR ι N w' (res.inst (fun j=>j) (Den.list ods r)).1 val):Zah P C f ⟨0,sargs,[],ids,⟨ods,res,[]⟩,F⟩:=by
 refine ⟨hwf,fun d r hF E eP eC ι N w vs args l hinsts hv R new=>?_⟩
 subst eP eC
 refine OpR.of_calls hf hname hb ((h d r hF ι N w vs R.nlt (by rw [hinsts];exact hv)).mono ?_)
 rintro e w' ⟨val,rfl,bel,hr⟩
 have mem:∀b,b<w.heap.size→w'.heap[b]? = w.heap[b]?:=bel.block
 refine ⟨val,rfl,ι,N,_,_,rfl,hr,?_,fun i _=>new i (Nat.zero_le _),⟨fun i hi=>absurd hi (by simp),fun _ h=>h,fun b hb=>mem b (R.nlt b hb),fun _ h=>.inl h⟩⟩
 refine ⟨fun i hi=>?_,fun i j b e hi=>?_,fun b hb=>Nat.lt_of_lt_of_le (R.nlt b hb) bel.size,fun b hb=>Nat.lt_of_lt_of_le (R.klt b hb) bel.size,?_,fun g hg=>?_⟩
 ·cases i<;>simp [OT.insts,Zc6] at hi
 ·cases i<;>simp [OT.insts,Zc6] at hi
 ·exact ⟨bel.os.trans R.pres.os,bel.tape.trans R.pres.tape,bel.output.trans R.pres.output,Nat.le_trans R.pres.size bel.size,fun k hk=>(mem k (R.klt k hk)).trans (R.pres.mem k hk)⟩
 ·obtain ⟨n,c,T,fz,hc,hx⟩:=R.glob g hg
  exact ⟨n,c,T,fz,(mem g (R.nlt g n)).trans hc,hx.mono fun a v ⟨x,y⟩=>⟨VRc.mono (fun _ h=>h) (fun b hb=>mem b (R.nlt b hb)) x,y⟩⟩
def ZsH (xs:List Str) (sep:Str):Str:=sep.intercalate xs
def ZtP:ZaQ:=⟨0,[.sc (.list [.str]),.sc .str],[],[.list [.str],.str],⟨[.str],.sc .str,[]⟩,fun (xs,sep)=>need (fits xs.length&&fits (ZsH xs sep).length) (some (ZsH xs sep))⟩
theorem Zu7 {P:Program} {C:Ctx} {ρ:Ren} (L:Lays.n156 P ρ) (X:Builder.Extra P ρ) {fn:Func} (hf:P.funcs[ρ.f 156]? = some fn) (hname:(fn.name == "runtime.NumGoroutine")=false) (hb:fn.body.isNone=false):Zah P C (ρ.f 156) ZtP:=by
 refine Zsi hf hname hb rfl fun d r hF ι N w vs hN hv=>?_
 obtain ⟨xs,sep⟩:=d
 obtain ⟨hfit,hF⟩:=Zbf hF
 cases hF
 simp only [Bool.and_eq_true] at hfit
 have h1:=ZiT hfit.1
 have h2:=ZiT hfit.2
 have hLIM:LIM=1099511627776:=rfl
 simp only [Den.list,Tp.insts,Tp.inst,Dat.av] at hv
 obtain ⟨l⟩:=vs
 dsimp only at hv
 match l,hv with
 | [a,b],hv=>
  simp only [VRL,VR] at hv
  obtain ⟨⟨ad,cap,rfl,hx⟩,rfl,_⟩:=hv
  rcases hx with rfl | ⟨b,o,⟨rfl,hcap⟩,hNb,c,T,fz,hheap,hcells⟩
  ·refine (Any.strings_Join_none L X ad cap ⟨sep.toArray⟩ w).mono ?_
   rintro e w' ⟨rfl,rfl⟩
   exact ⟨_,rfl,.refl _ _,by simp only [Den.list,Tp.inst,Dat.av,VR];rfl⟩
  ·have hmap:(xs.map fun s=>(⟨s.toArray⟩:ByteArray)).map (·.data.toList)=xs:=by simp [List.map_map,Function.comp_def]
   have key:=Any.strings_Join L X b o cap (xs.map fun s=>(⟨s.toArray⟩:ByteArray)) ⟨sep.toArray⟩ w (fun j x hj=>by
    rw [List.getElem?_map] at hj
    cases hxj:xs[j]? with
    | none=>rw [hxj] at hj;cases hj
    | some y=>
     rw [hxj] at hj
     simp only [Option.map_some,Option.some.injEq] at hj
     subst hj
     obtain ⟨v,e1,e2⟩:=hcells j y hxj 0 (.str y) rfl
     simp only [VRc,VRs] at e2
     subst e2
     simp only [ZaS,Nat.mul_one,Nat.add_zero,Nat.zero_add] at e1
     simp [World.cell?,hheap,e1]) (hN b hNb) (by simp;omega) (by simpa using hcap) (by rw [hmap];show (ZsH xs sep).length≤_;omega)
   rw [List.length_map] at key
   refine key.mono ?_
   rintro e w' ⟨rfl,bel⟩
   refine ⟨_,rfl,bel,?_⟩
   rw [hmap]
   simp only [Den.list,Tp.inst,Dat.av,VR]
   rfl
 | [],hv=>simp [VRL] at hv
 | [_],hv=>simp [VRL] at hv
 | _::_::_::_,hv=>simp [VRL] at hv
end Ev
end
section
namespace Ev
open Go Go.Proofs Go.Shelf
def ZxI (x:Str×Str):List (Str×Str)→List (Str×Str)
 | []=>[x]
 | y::l=>bif Op.bytesLess y.1 x.1 then y::ZxI x l else x::y::l
def Zj5:List (Str×Str)→List (Str×Str)
 | []=>[]
 | x::l=>ZxI x (Zj5 l)
def Zg7:List (Str×Str)→Bool
 | []=>true
 | x::l=>l.all (fun y=>!(x.1==y.1))&&Zg7 l
def Zqf (list:List (Str×Str)):Option (List (Str×Str)):=need (Zg7 list&&fits list.length) (some (Zj5 list))
end Ev
end
section
namespace Go.Proofs
open Go.Shelf
def Tryz.lays156_ren:Go.Shelf.Ren:=⟨fun | 156=>81 | 165=>134 | 166=>135 | 169=>136 | 240=>180 | 241=>181 | 276=>211 | 277=>212 | n=>n,fun | 31=>52 | 9=>9 | 3=>3 | 4=>4 | 0=>0 | 20=>20 | 72=>141 | 76=>145 | 70=>139 | 37=>31 | 75=>144 | 127=>177 | 164=>210 | 5=>5 | 80=>147 | n=>n,fun | n=>n⟩
theorem Tryz.lays156:Go.Proofs.Lays.n156 Tryz.prog Tryz.lays156_ren:={
 mixed:=by kernel_rfl
 f156:=Tryz.func81.trans (congrArg some (by kernel_rfl))
 f165:=Tryz.func134.trans (congrArg some (by kernel_rfl))
 f166:=Tryz.func135.trans (congrArg some (by kernel_rfl))
 f169:=Tryz.func136.trans (congrArg some (by kernel_rfl))
 f240:=Tryz.func180.trans (congrArg some (by kernel_rfl))
 f241:=Tryz.func181.trans (congrArg some (by kernel_rfl))
 f276:=Tryz.func211.trans (congrArg some (by kernel_rfl))
 f277:=Tryz.func212.trans (congrArg some (by kernel_rfl))
 t0:=Tryz.underlying0
 a0:=Tryz.isAgg0
 z0:=Tryz.sizeOf0
 v0:=Tryz.zeroValue0
 t3:=Tryz.underlying3
 a3:=Tryz.isAgg3
 z3:=Tryz.sizeOf3
 v3:=Tryz.zeroValue3
 t4:=Tryz.underlying4
 a4:=Tryz.isAgg4
 z4:=Tryz.sizeOf4
 v4:=Tryz.zeroValue4
 t9:=Tryz.underlying9
 a9:=Tryz.isAgg9
 z9:=Tryz.sizeOf9
 v9:=Tryz.zeroValue9
 t20:=Tryz.underlying20
 a20:=Tryz.isAgg20
 z20:=Tryz.sizeOf20
 v20:=Tryz.zeroValue20
 t31:=Tryz.underlying52
 a31:=Tryz.isAgg52
 z31:=Tryz.sizeOf52
 v31:=Tryz.zeroValue52
 t37:=Tryz.underlying31
 a37:=Tryz.isAgg31
 z37:=Tryz.sizeOf31
 v37:=Tryz.zeroValue31
 t70:=Tryz.underlying139
 a70:=Tryz.isAgg139
 z70:=Tryz.sizeOf139
 v70:=Tryz.zeroValue139
 t72:=Tryz.underlying141
 a72:=Tryz.isAgg141
 z72:=Tryz.sizeOf141
 v72:=Tryz.zeroValue141
 t75:=Tryz.underlying144
 a75:=Tryz.isAgg144
 z75:=Tryz.sizeOf144
 v75:=Tryz.zeroValue144
 t76:=Tryz.underlying145
 a76:=Tryz.isAgg145
 z76:=Tryz.sizeOf145
 v76:=Tryz.zeroValue145
 t127:=Tryz.underlying177
 a127:=Tryz.isAgg177
 z127:=Tryz.sizeOf177
 v127:=Tryz.zeroValue177
 t164:=Tryz.underlying210
 a164:=Tryz.isAgg210
 z164:=Tryz.sizeOf210
 v164:=Tryz.zeroValue210 }
theorem Tryz.Builder_Extra_156:Builder.Extra Tryz.prog Tryz.lays156_ren:={
 sizeBuilder:=by kernel_rfl
 liesBuilder:=by kernel_rfl
 t5:=Tryz.underlying5
 a5:=Tryz.isAgg5
 z5:=Tryz.sizeOf5
 v5:=Tryz.zeroValue5
 infoByte:=by kernel_rfl
 cellsByte:=by kernel_rfl
 sizeByte:=by kernel_rfl
 neB5:=by decide }
def Tryz.laysSort_ren:Go.Shelf.Ren:=⟨fun | 6=>63 | 15=>123 | 14=>122 | 28=>164 | 29=>165 | 20=>156 | 21=>157 | 22=>158 | 23=>159 | 24=>160 | 25=>161 | 26=>162 | 27=>163 | 46=>188 | 47=>189 | 48=>190 | 49=>191 | 50=>192 | 57=>222 | n=>n,fun | 22=>24 | 24=>61 | 25=>84 | 3=>3 | 39=>128 | 0=>0 | 53=>163 | 55=>165 | 4=>4 | 46=>157 | 45=>156 | 50=>123 | 5=>5 | 9=>9 | 66=>182 | 70=>186 | 76=>219 | 77=>220 | n=>n,fun | n=>n⟩
theorem Tryz.laysSort:Go.Proofs.SlLaysF0.n6 Tryz.prog Tryz.laysSort_ren:={
 mixed:=by kernel_rfl
 f6:=⟨Tryz.f63.name,by decide,Tryz.func63.trans (congrArg some (by kernel_rfl))⟩
 f14:=⟨Tryz.f122.name,by decide,Tryz.func122.trans (congrArg some (by kernel_rfl))⟩
 f15:=Tryz.func123.trans (congrArg some (by kernel_rfl))
 f20:=⟨Tryz.f156.name,by decide,Tryz.func156.trans (congrArg some (by kernel_rfl))⟩
 f21:=⟨Tryz.f157.name,by decide,Tryz.func157.trans (congrArg some (by kernel_rfl))⟩
 f22:=⟨Tryz.f158.name,by decide,Tryz.func158.trans (congrArg some (by kernel_rfl))⟩
 f23:=⟨Tryz.f159.name,by decide,Tryz.func159.trans (congrArg some (by kernel_rfl))⟩
 f24:=⟨Tryz.f160.name,by decide,Tryz.func160.trans (congrArg some (by kernel_rfl))⟩
 f25:=⟨Tryz.f161.name,by decide,Tryz.func161.trans (congrArg some (by kernel_rfl))⟩
 f26:=⟨Tryz.f162.name,by decide,Tryz.func162.trans (congrArg some (by kernel_rfl))⟩
 f27:=⟨Tryz.f163.name,by decide,Tryz.func163.trans (congrArg some (by kernel_rfl))⟩
 f28:=Tryz.func164.trans (congrArg some (by kernel_rfl))
 f29:=Tryz.func165.trans (congrArg some (by kernel_rfl))
 f46:=⟨Tryz.f188.name,by decide,Tryz.func188.trans (congrArg some (by kernel_rfl))⟩
 f47:=Tryz.func189.trans (congrArg some (by kernel_rfl))
 f48:=Tryz.func190.trans (congrArg some (by kernel_rfl))
 f49:=⟨Tryz.f191.name,by decide,Tryz.func191.trans (congrArg some (by kernel_rfl))⟩
 f50:=⟨Tryz.f192.name,by decide,Tryz.func192.trans (congrArg some (by kernel_rfl))⟩
 f57:=⟨Tryz.f222.name,by decide,Tryz.func222.trans (congrArg some (by kernel_rfl))⟩
 t0:=Tryz.underlying0
 a0:=Tryz.isAgg0
 z0:=Tryz.sizeOf0
 v0:=Tryz.zeroValue0
 t3:=Tryz.underlying3
 a3:=Tryz.isAgg3
 z3:=Tryz.sizeOf3
 v3:=Tryz.zeroValue3
 t4:=Tryz.underlying4
 a4:=Tryz.isAgg4
 z4:=Tryz.sizeOf4
 v4:=Tryz.zeroValue4
 t5:=Tryz.underlying5
 a5:=Tryz.isAgg5
 z5:=Tryz.sizeOf5
 v5:=Tryz.zeroValue5
 t9:=Tryz.underlying9
 a9:=Tryz.isAgg9
 z9:=Tryz.sizeOf9
 v9:=Tryz.zeroValue9
 t22:=Tryz.underlying24
 a22:=Tryz.isAgg24
 z22:=Tryz.sizeOf24
 v22:=Tryz.zeroValue24
 t25:=Tryz.underlying84
 a25:=Tryz.isAgg84
 z25:=Tryz.sizeOf84
 v25:=Tryz.zeroValue84
 t39:=Tryz.underlying128
 a39:=Tryz.isAgg128
 z39:=Tryz.sizeOf128
 v39:=Tryz.zeroValue128
 t45:=Tryz.underlying156
 a45:=Tryz.isAgg156
 z45:=Tryz.sizeOf156
 v45:=Tryz.zeroValue156
 t46:=Tryz.underlying157
 a46:=Tryz.isAgg157
 z46:=Tryz.sizeOf157
 v46:=Tryz.zeroValue157
 t50:=Tryz.underlying123
 a50:=Tryz.isAgg123
 z50:=Tryz.sizeOf123
 v50:=Tryz.zeroValue123
 t53:=Tryz.underlying163
 a53:=Tryz.isAgg163
 z53:=Tryz.sizeOf163
 v53:=Tryz.zeroValue163
 t55:=Tryz.underlying165
 a55:=Tryz.isAgg165
 z55:=Tryz.sizeOf165
 v55:=Tryz.zeroValue165
 t66:=Tryz.underlying182
 a66:=Tryz.isAgg182
 z66:=Tryz.sizeOf182
 v66:=Tryz.zeroValue182
 t70:=Tryz.underlying186
 a70:=Tryz.isAgg186
 z70:=Tryz.sizeOf186
 v70:=Tryz.zeroValue186
 t76:=Tryz.underlying219
 a76:=Tryz.isAgg219
 z76:=Tryz.sizeOf219
 v76:=Tryz.zeroValue219
 t77:=Tryz.underlying220
 a77:=Tryz.isAgg220
 z77:=Tryz.sizeOf220
 v77:=Tryz.zeroValue220 }
end Go.Proofs
end
section
namespace Ev
open Go
theorem Zeo:∀a:Str,Op.bytesLess a a=false
 | []=>rfl
 | c::a=>by simp [Op.bytesLess,Zeo a]
theorem ZeL:∀{a b c:Str},Op.bytesLess a b=true→Op.bytesLess b c=true→Op.bytesLess a c=true
 | a,b,[],_,h=>by cases b<;>simp [Op.bytesLess] at h
 | [],b,z::c,_,_=>rfl
 | x::a,[],z::c,h,_=>by simp [Op.bytesLess] at h
 | x::a,y::b,z::c,h,k=>by
  simp only [Op.bytesLess,Bool.or_eq_true,decide_eq_true_eq,Bool.and_eq_true,beq_iff_eq] at h k ⊢
  rcases h with h | ⟨rfl,h⟩
  ·rcases k with k | ⟨rfl,k⟩
   ·exact .inl (UInt8.lt_trans h k)
   ·exact .inl h
  ·rcases k with k | ⟨rfl,k⟩
   ·exact .inl k
   ·exact .inr ⟨rfl,ZeL h k⟩
theorem Zfw:∀a b:Str,Op.bytesLess a b=false→Op.bytesLess b a=false→a=b
 | [],[],_,_=>rfl
 | [],b::y,h,_=>by simp [Op.bytesLess] at h
 | a::x,[],_,h=>by simp [Op.bytesLess] at h
 | a::x,b::y,h,k=>by
  simp only [Op.bytesLess,Bool.or_eq_false_iff,decide_eq_false_iff_not,Bool.and_eq_false_iff,beq_eq_false_iff_ne] at h k
  have hab:a=b:=by
   have h1:=h.1
   have h2:=k.1
   rw [UInt8.lt_iff_toNat_lt] at h1 h2
   exact UInt8.toNat_inj.1 (by omega)
  subst hab
  have h2:Op.bytesLess x y=false:=by rcases h.2 with q | q;exact absurd rfl q;exact q
  have k2:Op.bytesLess y x=false:=by rcases k.2 with q | q;exact absurd rfl q;exact q
  rw [Zfw x y h2 k2]
theorem Zwy {a b:Str} (h:Op.bytesLess a b=true):Op.bytesLess b a=false:=by
 cases k:Op.bytesLess b a with
 | false=>rfl
 | true=>have:=ZeL h k;rw [Zeo] at this;cases this
def Srt (l:List (Str×Str)):Prop:=l.Pairwise fun a b=>Op.bytesLess a.1 b.1=true
theorem Zj4:∀{l m:List (Str×Str)},Srt l→Srt m→(∀x,x∈l↔x∈m)→l=m
 | [],[],_,_,_=>rfl
 | [],b::m,_,_,h=>by have:=(h b).2 (List.mem_cons_self ..);cases this
 | a::l,[],_,_,h=>by have:=(h a).1 (List.mem_cons_self ..);cases this
 | a::l,b::m,hl,hm,h=>by
  obtain ⟨l1,l2⟩:=List.pairwise_cons.1 hl
  obtain ⟨m1,m2⟩:=List.pairwise_cons.1 hm
  have hab:a=b:=by
   rcases List.mem_cons.1 ((h a).1 (List.mem_cons_self ..)) with e | e
   ·exact e
   ·rcases List.mem_cons.1 ((h b).2 (List.mem_cons_self ..)) with e' | e'
    ·exact e'.symm
    ·have q1:=m1 a e
     have q2:=Zwy (l1 b e')
     rw [q1] at q2;cases q2
  subst hab
  congr 1
  refine Zj4 l2 m2 fun x=>⟨fun hx=>?_,fun hx=>?_⟩
  ·rcases List.mem_cons.1 ((h x).1 (List.mem_cons_of_mem _ hx)) with rfl | q
   ·have:=l1 x hx;rw [Zeo] at this;cases this
   ·exact q
  ·rcases List.mem_cons.1 ((h x).2 (List.mem_cons_of_mem _ hx)) with rfl | q
   ·have:=m1 x hx;rw [Zeo] at this;cases this
   ·exact q
theorem Zpr (x:Str×Str):∀(l:List (Str×Str)) (y:Str×Str),y∈ZxI x l↔y=x∨y∈l
 | [],y=>by simp [ZxI]
 | z::l,y=>by
  rw [ZxI]
  cases Op.bytesLess z.1 x.1 with
  | true=>rw [cond_true,List.mem_cons,Zpr x l y,List.mem_cons];constructor<;>(rintro (h | h | h)<;>simp [h])
  | false=>rw [cond_false,List.mem_cons]
theorem ZtS (x:Str×Str):∀(l:List (Str×Str)),Srt l→(∀y∈l,y.1≠x.1)→Srt (ZxI x l)
 | [],_,_=>by rw [ZxI];exact List.pairwise_singleton ..
 | z::l,h,hx=>by
  obtain ⟨h1,h2⟩:=List.pairwise_cons.1 h
  rw [ZxI]
  cases hb:Op.bytesLess z.1 x.1 with
  | true=>
   rw [cond_true]
   refine List.pairwise_cons.2 ⟨fun y hy=>?_,ZtS x l h2 (fun y hy=>hx y (List.mem_cons_of_mem _ hy))⟩
   rcases (Zpr x l y).1 hy with rfl | hy
   ·exact hb
   ·exact h1 y hy
  | false=>
   rw [cond_false]
   have hlt:Op.bytesLess x.1 z.1=true:=by
    cases k:Op.bytesLess x.1 z.1 with
    | true=>rfl
    | false=>exact absurd (Zfw _ _ hb k) (hx z (List.mem_cons_self ..))
   refine List.pairwise_cons.2 ⟨fun y hy=>?_,h⟩
   rcases List.mem_cons.1 hy with rfl | hy
   ·exact hlt
   ·exact ZeL hlt (h1 y hy)
def Zvy (l:List (Str×Str)):Prop:=l.Pairwise fun a b=>a.1≠b.1
theorem Zo8:∀(l:List (Str×Str)),Zvy l→Srt (Zj5 l)∧∀y,y∈Zj5 l↔y∈l
 | [],_=>⟨List.Pairwise.nil,fun y=>Iff.rfl⟩
 | x::l,h=>by
  obtain ⟨h1,h2⟩:=List.pairwise_cons.1 h
  obtain ⟨i1,i2⟩:=Zo8 l h2
  rw [Zj5]
  refine ⟨ZtS x _ i1 (fun y hy=>fun e=>h1 y ((i2 y).1 hy) e.symm),fun y=>?_⟩
  rw [Zpr,i2,List.mem_cons]
theorem ZmM:∀(l:List (Str×Str)),Zvy l→Zg7 l=true
 | [],_=>rfl
 | x::l,h=>by
  obtain ⟨h1,h2⟩:=List.pairwise_cons.1 h
  rw [Zg7,ZmM l h2,Bool.and_true,List.all_eq_true]
  intro y hy
  rw [beq_false_of_ne (h1 y hy)];rfl
theorem Zi9:∀(l:List (Str×Str)),(Zj5 l).length=l.length
 | []=>rfl
 | x::l=>by
  have hi:∀(m:List (Str×Str)),(ZxI x m).length=m.length+1:=fun m=>by
   induction m with
   | nil=>rfl
   | cons z m ih=>rw [ZxI];cases Op.bytesLess z.1 x.1<;>simp [ih]
  rw [Zj5,hi,Zi9 l];rfl
theorem Zox:∀{l:List (Str×Str)},Zg7 l=true→Zvy l
 | [],_=>List.Pairwise.nil
 | x::l,h=>by
  rw [Zg7,Bool.and_eq_true,List.all_eq_true] at h
  refine List.pairwise_cons.2 ⟨fun y hy e=>?_,Zox h.2⟩
  have:=h.1 y hy
  rw [e,beq_self_eq_true] at this
  cases this
end Ev
end
section
namespace Ev
open Go Go.Proofs Go.Shelf
abbrev FFT:FT:=[.str,.str]
def Zr2 (x:Str×Str):List Value:=[.string ⟨x.1.toArray⟩,.string ⟨x.2.toArray⟩]
def cfF (x y:Str×Str):Int:=if Op.bytesLess x.1 y.1=true then -1 else if Op.bytesLess y.1 x.1=true then 1 else 0
theorem ltF (x y:Str×Str):ltOf cfF x y=Op.bytesLess x.1 y.1:=by
 unfold ltOf cfF
 cases h:Op.bytesLess x.1 y.1 with
 | true=>rfl
 | false=>cases k:Op.bytesLess y.1 x.1<;>rfl
theorem swoF:Go.Sort.SWO (ltOf cfF) where
 irrefl x:=by rw [ltF];exact Zeo _
 trans x y z h k:=by rw [ltF] at h k ⊢;exact ZeL h k
 ntrans x y z h k:=by
  rw [ltF] at h k ⊢
  cases q:Op.bytesLess x.1 z.1 with
  | false=>rfl
  | true=>
   cases e:Op.bytesLess y.1 x.1 with
   | true=>have:=ZeL e q;rw [k] at this;cases this
   | false=>
    have:=Zfw _ _ h e
    rw [this,k] at q;cases q
theorem ZvT {list:List (Str×Str)} {d':Array (Str×Str)} (hu:Zvy list) (hp:Go.Sort.PermIn 0 list.length list.toArray d') (hs:Go.Sort.SortedIn (ltOf cfF) 0 list.length d'):d'.toList=Zj5 list:=by
 obtain ⟨p1,_,p3⟩:=hp
 have hsz:d'.size=list.length:=by rw [p1];simp
 have e1:(d'.extract 0 list.length).toList=d'.toList:=by rw [←hsz];simp
 have e2:(list.toArray.extract 0 list.length).toList=list:=by simp
 rw [e1,e2] at p3
 have hu':Zvy d'.toList:=by
  unfold Zvy at hu ⊢
  exact (p3.pairwise_iff (fun {a b} h=>fun e=>h e.symm)).2 hu
 obtain ⟨s1,s2⟩:=Zo8 list hu
 refine Zj4 ?_ s1 (fun x=>by rw [p3.mem_iff,s2])
 unfold Srt
 rw [List.pairwise_iff_getElem]
 intro i j hi hj hij
 rw [Array.length_toList] at hi hj
 have h:=hs i j (Nat.zero_le _) hij (by omega)
 rw [ltF,getElem!_pos d' i hi,getElem!_pos d' j hj] at h
 have hne:=List.pairwise_iff_getElem.1 hu' i j (by rw [Array.length_toList];exact hi) (by rw [Array.length_toList];exact hj) hij
 rw [Array.getElem_toList,Array.getElem_toList] at hne ⊢
 cases k:Op.bytesLess d'[i].1 d'[j].1 with
 | true=>rfl
 | false=>exact absurd (Zfw _ _ k h) hne
theorem Zpz (o:Ob) (k:Nat) (h:Zc6 [o] k≠.dead):k=0:=by
 cases k with
 | zero=>rfl
 | succ k=>exact absurd (by cases k<;>simp [Zc6]) h
theorem Zzt {E:Env} {ι:Nat→Option Value} {N:Nat→Prop} {w w':World} {o o':Ob} {v:Value} (R:Zcx E ι N (Zc6 [o]) w) (e1:w'.os=w.os) (e2:w'.tape=w.tape) (e3:w'.output=w.output) (e4:w.heap.size≤w'.heap.size)
  (hN:∀b,N b→w'.heap[b]? = w.heap[b]?) (hK:∀b,E.keep b→w'.heap[b]? = w.heap[b]?) (hv:ι 0=some v) (hO:ObR ι N E.keep w' v o'):Zcx E ι N (Zc6 [o']) w':=by
 refine ⟨fun k hk=>?_,fun k m b e hk hm=>?_,fun b hb=>Nat.lt_of_lt_of_le (R.nlt b hb) e4,fun b hb=>Nat.lt_of_lt_of_le (R.klt b hb) e4,?_,fun g hg=>?_⟩
 ·obtain rfl:=Zpz o' k hk
  exact ⟨v,hv,hO⟩
 ·exact absurd ((Zpz o' k hk).trans (Zpz o' m hm).symm) e
 ·exact ⟨e1.trans R.pres.os,e2.trans R.pres.tape,e3.trans R.pres.output,Nat.le_trans R.pres.size e4,fun b hb=>(hK b hb).trans (R.pres.mem b hb)⟩
 ·obtain ⟨n,c,T,fz,hc,hx⟩:=R.glob g hg
  exact ⟨n,c,T,fz,(hN g n).trans hc,hx.mono fun a v ⟨x,y⟩=>⟨VRc.mono (fun _ h=>h) hN x,y⟩⟩
theorem Zzo {w:World} {b n:Nat} {d':Array (Str×Str)} {os:Array Obj} {c:Array Value} {T:TypeId} {fz:Nat×Nat} (h:w.heap[b]? = some (.cells c T fz)) :
  (sortWorldK Zr2 2 w b 0 n d' os).heap[b]? = some (.cells (Go.Sort.putCells id 0 (Go.Sort.flatK Zr2 2 d') c) T fz)∧(∀i,i<w.heap.size→i≠b→(sortWorldK Zr2 2 w b 0 n d' os).heap[i]? = w.heap[i]?)∧w.heap.size≤(sortWorldK Zr2 2 w b 0 n d' os).heap.size:=by
 have hb:b<w.heap.size:=(Array.getElem?_eq_some_iff.1 h).1
 unfold sortWorldK Go.Sort.putRowK Go.Sort.putRow Go.Sort.mapBlock Go.Sort.grow Go.Sort.ahead
 refine ⟨?_,fun i hi hne=>?_,?_⟩
 ·dsimp only
  rw [Array.getElem?_append_left (by simpa using hb),Array.getElem?_modify,if_pos rfl,h]
  rfl
 ·dsimp only
  rw [Array.getElem?_append_left (by simpa using hi),Array.getElem?_modify,if_neg (fun e=>hne e.symm)]
 ·simp
theorem Zux {P:Program} {C:Ctx} {ρ:Ren} {g:Nat} (L:SlLaysF0.n6 P ρ) (aE:∀w,(isAgg (ρ.t 24)).run P w=.ok true w) (zE:∀w,(Go.sizeOf (ρ.t 24)).run P w=.ok 2 w) (eg:∀args w,(callFunc g args).run P w=.ok (.enter g args) w)
  (hc:∀(x y:Str×Str) (w:World),Calls P g #[.agg (Zr2 x).toArray,.agg (Zr2 y).toArray] w fun e w'=>e=.returned (.int .i64 (cfF x y))∧∃q os',w'=Go.Sort.grow (w.drewN q) os')
  {fn:Func} (hf:P.funcs[ρ.f 6]? = some fn) (hname:(fn.name == "runtime.NumGoroutine")=false) (hb:fn.body.isNone=false) :
  Zah P C (ρ.f 6) ⟨1,[.full 0,.fn g [] []],[.arr [.str,.str]],[.list [.str,.str]],⟨[.list [.str,.str]],.tup [],[.arr [.str,.str]]⟩,fun (list:List (Str×Str))=>Zqf list⟩:=by
 refine ⟨rfl,fun list r hF E eP eC ι N w vs args l hinsts hv R new=>?_⟩
 subst eP eC
 have hF:Zqf list=some r:=hF
 obtain ⟨hcond,hF⟩:=Zbf hF
 obtain rfl:=Option.some.inj hF
 rw [Bool.and_eq_true] at hcond
 obtain ⟨hfr,hfit⟩:=hcond
 have hu:=Zox hfr
 have hlim:list.length≤1099511627776:=by have:=ZiT hfit;simpa [LIM] using this
 simp only [Den.list,Tp.insts,Tp.inst,Dat.av,Prod.mk.injEq] at hinsts
 obtain ⟨rfl,rfl⟩:=hinsts
 obtain ⟨vl⟩:=vs
 dsimp only at hv
 match vl,hv with
 | [v0,v1],hv=>
  simp only [VRL,VR] at hv
  obtain ⟨⟨hι,_⟩,⟨fs,cs,rfl,hfs,hcs⟩,_⟩:=hv
  have h1:=VRL.len hfs
  have h2:=VRL.len hcs
  obtain rfl:fs= #[]:=by apply Array.ext';exact List.length_eq_zero_iff.1 h1.symm
  obtain rfl:cs= #[]:=by apply Array.ext';exact List.length_eq_zero_iff.1 h2.symm
  have R1:Zcx E ι N (Zc6 [Ob.arr FFT list]) w:=R
  obtain ⟨v',hv',a,cap,rfl,hle,hcase⟩:=R1.ob 0 (by simp [Zc6])
  rw [hι] at hv'
  obtain rfl:v0=.slice a list.length cap:=by simpa using hv'
  have fin:∀(w':World),w'.os=w.os→w'.tape=w.tape→w'.output=w.output→w.heap.size≤w'.heap.size→(∀b,N b→w'.heap[b]? = w.heap[b]?)→(∀b,E.keep b→w'.heap[b]? = w.heap[b]?)→
    ObR ι N E.keep w' (.slice a list.length cap) (.arr FFT (Zj5 list))→
    ∃ι' N' v l',Tp.inst (fun j=>j) (.tup []) (Den.list [.list [.str,.str]] (Zj5 list))=(v,l')∧VR ι' N' w' v (.tuple #[])∧
     Zcx E ι' N' (Zc6 (OT.insts (fun j=>j) [.arr [.str,.str]] l')) w'∧(∀i,1≤i→ι' i=none)∧ZnC E 1 ι N w ι' N' w':=by
   intro w' e1 e2 e3 e4 hN hK hO
   refine ⟨ι,N,_,_,rfl,?_,?_,new,⟨fun _ _=>rfl,fun _ h=>h,hN,fun _ h=>.inl h⟩⟩
   ·simp only [Tp.inst,Tp.insts,VR]
    exact ⟨#[],rfl,by simp [VRL]⟩
   ·exact Zzt (o':=.arr FFT (Zj5 list)) R1 e1 e2 e3 e4 hN hK hι hO
  refine OpR.of_calls hf hname hb ?_
  rcases Nat.eq_zero_or_pos list.length with h0 | hpos
  ·have hnil:list=[]:=List.length_eq_zero_iff.1 h0
   subst hnil
   refine (AnyF.slices_SortFunc_none L a cap (.func (.func g) #[] #[]) w).mono ?_
   rintro e w' ⟨rfl,rfl⟩
   exact ⟨_,rfl,fin w' rfl rfl rfl (Nat.le_refl _) (fun _ _=>rfl) (fun _ _=>rfl) ⟨a,cap,rfl,hle,hcase⟩⟩
  ·rcases hcase with rfl | ⟨b,c,T,rfl,hown,hheap,hsz,hcells⟩
   ·omega
   have h2:ZaS FFT=2:=rfl
   rw [h2] at hsz hcells
   have hblk:b<w.heap.size:=(Array.getElem?_eq_some_iff.1 hheap).1
   have hcell:∀i (hi:i<list.length),c[i*2]? = some (.string ⟨list[i].1.toArray⟩)∧c[i*2+1]? = some (.string ⟨list[i].2.toArray⟩):=fun i hi=>by
    obtain ⟨u,hu,hr⟩:=hcells i list[i] (List.getElem?_eq_getElem hi) 0 (.str list[i].1) rfl
    obtain ⟨u',hu',hr'⟩:=hcells i list[i] (List.getElem?_eq_getElem hi) 1 (.str list[i].2) rfl
    simp only [VRc,VRs] at hr hr'
    subst hr hr'
    exact ⟨hu,hu'⟩
   have hH:Go.Sort.HoldsK Zr2 2 w b 0 list.toArray:=by
    intro t ht
    rw [Go.Sort.size_flatK,List.size_toArray] at ht
    have hi:t/2<list.length:=by omega
    rw [Go.Sort.get_flatK _ _ _ _ (by rw [List.size_toArray];exact ht)]
    have hg:list.toArray[t/2]! = list[t/2]:=by rw [getElem!_pos list.toArray (t/2) (by simpa using hi)];simp
    rw [hg]
    obtain ⟨c0,c1⟩:=hcell (t/2) hi
    refine ⟨?_,by simp [World.frozen?,hheap]⟩
    rcases Nat.mod_two_eq_zero_or_one t with hm | hm
    ·rw [hm]
     have:c[t]? = some (.string ⟨list[t/2].1.toArray⟩):=by rw [←c0];congr 1;omega
     simp [World.cell?,hheap,this,Zr2]
    ·rw [hm]
     have:c[t]? = some (.string ⟨list[t/2].2.toArray⟩):=by rw [←c1];congr 1;omega
     simp [World.cell?,hheap,this,Zr2]
   have key:=AnyQ.slices_SortFunc L 2 aE zE Zr2 (fun _=>rfl) (fun x v hv=>by
    simp only [Zr2,List.mem_cons,List.not_mem_nil,or_false] at hv
    rcases hv with rfl | rfl<;>rfl) cfF swoF g #[] b 0 cap list.toArray w eg (fun m os dk hs x y=>by simpa using hc x y _) hH hblk (by rw [List.size_toArray];omega)
   rw [List.size_toArray] at key
   refine key.mono ?_
   rintro e w' ⟨rfl,d',n,os,hp,hs,rfl⟩
   have hd:=ZvT hu hp hs
   have hdl:d'.size=list.length:=by rw [hp.1];simp
   obtain ⟨k1,k2,k3⟩:=Zzo (n:=n) (d':=d') (os:=os) hheap
   have hN:∀b',N b'→(sortWorldK Zr2 2 w b 0 n d' os).heap[b']? = w.heap[b']?:=fun b' hb'=>k2 b' (R.nlt b' hb') (fun e=>hown.1 (e ▸ hb'))
   refine ⟨_,rfl,fin _ rfl rfl rfl k3 hN (fun b' hb'=>k2 b' (R.klt b' hb') (fun e=>hown.2 (e ▸ hb'))) ?_⟩
   refine ⟨some ⟨b,0,none⟩,cap,by rw [Zi9],by rw [Zi9];exact hle,.inr ⟨b,_,T,rfl,hown,k1,by rw [h2];simpa [Go.Sort.putCells] using hsz,?_⟩⟩
   rw [h2]
   intro m x hx f av hav
   rw [←hd] at hx
   have hm:m<d'.size:=by have:=(List.getElem?_eq_some_iff.1 hx).1;rwa [Array.length_toList] at this
   have hxe:d'[m]! = x:=by
    rw [Array.getElem?_toList,Array.getElem?_eq_getElem hm] at hx
    rw [getElem!_pos d' m hm];exact Option.some.inj hx
   have hf2:f<2:=by
    have:=(List.getElem?_eq_some_iff.1 hav).1
    rw [El.cells_len,h2] at this;exact this
   have hmc:m*2+f<c.size:=by omega
   have hput:(Go.Sort.putCells id 0 (Go.Sort.flatK Zr2 2 d') c)[m*2+f]? = some ((Zr2 x)[f]!):=by
    unfold Go.Sort.putCells
    rw [Array.getElem?_mapIdx,Array.getElem?_eq_getElem hmc]
    simp only [Option.map_some]
    rw [if_pos ⟨Nat.zero_le _,by rw [Go.Sort.size_flatK];omega⟩,Nat.sub_zero,Go.Sort.get_flatK _ _ _ _ (by omega),show (m*2+f)/2=m by omega,show (m*2+f)%2=f by omega,hxe]
    rfl
   refine ⟨_,hput,?_⟩
   obtain ⟨x1,x2⟩:=x
   rcases f with _ | _ | f
   ·have h0:av=Sc.str.av x1:=by simpa [El.cells] using hav.symm
    have h1:av=.str x1:=h0
    subst h1
    simp only [VRc,VRs];rfl
   ·have h0:av=Sc.str.av x2:=by simpa [El.cells] using hav.symm
    have h1:av=.str x2:=h0
    subst h1
    simp only [VRc,VRs];rfl
   ·omega
 | [],hv=>simp [VRL] at hv
 | [_],hv=>simp [VRL] at hv
 | _::_::_::_,hv=>simp [VRL] at hv
def Zzd (s t:ByteArray):Int:=if Op.bytesLess s.toList t.toList=true then -1 else if Op.bytesLess t.toList s.toList=true then 1 else 0
theorem ZzS (x y:Str×Str):Zzd ⟨x.1.toArray⟩ ⟨y.1.toArray⟩=cfF x y:=by
 unfold Zzd cfF
 rw [ByteArray.toList_eq,ByteArray.toList_eq]
theorem hc_of {P:Program} {g:Nat} (h:∀(a b c d:ByteArray) (w:World),Calls P g #[.agg #[.string a,.string b],.agg #[.string c,.string d]] w fun e w'=>e=.returned (.int .i64 (Zzd a c))∧∃q os',w'=Go.Sort.grow (w.drewN q) os') :
  ∀(x y:Str×Str) (w:World),Calls P g #[.agg (Zr2 x).toArray,.agg (Zr2 y).toArray] w fun e w'=>e=.returned (.int .i64 (cfF x y))∧∃q os',w'=Go.Sort.grow (w.drewN q) os':=fun x y w=>by
 have k:=h ⟨x.1.toArray⟩ ⟨x.2.toArray⟩ ⟨y.1.toArray⟩ ⟨y.2.toArray⟩ w
 rw [ZzS] at k
 exact k
end Ev
end

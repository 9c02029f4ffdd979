/- Library functions by the kit's own contracts. Conditions: as stated. -/
import Derived.Shelf.Strings.OnBuilder
import Derived.Lib.ItoaNum
import Derived.Shelf.LaysM
import Derived.Shelf.Strconv.Itoa3
import Derived.Shelf.SlGeneric
import Derived.Ground.SlsfProg
import Derived.Shelf.SlLaysF0
import Derived.Test.YtadeffpcedlalaaGreatDoorProg
import Derived.Shelf.SlSortCmp.NoneTotal
import Derived.Test.YtadeffpcedlalaaGreatDoorTGA2
set_option linter.unusedVariables false
set_option linter.unusedSimpArgs false
section
namespace Ev
open Go Go.Proofs Go.Shelf
theorem Znf {P:Program} {C:Ctx} {f:Nat} {fn:Func} {sargs:List Tp} {ids ods:List DT} {res:Tp} {F:Den ids→Option (Den ods)} (hf:P.funcs[f]? = some fn) (hname:(fn.name == "runtime.NumGoroutine")=false) (hb:fn.body.isNone=false)
  (hwf:(Zbb.mk 0 sargs [] ids ⟨ods,res,[]⟩ F).wf=true)
  (h:∀(d:Den ids) (r:Den ods),F d=some r→∀(ι:Nat→Option Value) (N:Nat→Prop) (w:World) (vs:Array Value),(∀b,N b→b<w.heap.size)→VRL ι N w (Tp.insts (fun j=>j) sargs (Den.list ids d)).1 vs.toList→
   Calls P f vs w fun e w'=>∃val,e=.returned val∧RowKit.Below w.heap.size w w'∧VR ι N w' (res.inst (fun j=>j) (Den.list ods r)).1 val):Zak P C f ⟨0,sargs,[],ids,⟨ods,res,[]⟩,F⟩:=by
 refine ⟨hwf,fun d r hF E eP eC ι N w vs args l hinsts hv R new=>?_⟩
 subst eP eC
 refine OpR.of_calls hf hname hb ((h d r hF ι N w vs R.nlt (by rw [hinsts];exact hv)).mono ?_)
 rintro e w' ⟨val,rfl,bel,hr⟩
 have mem:∀b,b<w.heap.size→w'.heap[b]? = w.heap[b]?:=bel.block
 refine ⟨val,rfl,ι,N,_,_,rfl,hr,?_,fun i _=>new i (Nat.zero_le _),⟨fun i hi=>absurd hi (by simp),fun _ h=>h,fun b hb=>mem b (R.nlt b hb),fun _ h=>.inl h⟩⟩
 refine ⟨fun i hi=>?_,fun i j b e hi=>?_,fun b hb=>Nat.lt_of_lt_of_le (R.nlt b hb) bel.size,fun b hb=>Nat.lt_of_lt_of_le (R.klt b hb) bel.size,?_,fun g hg=>?_⟩
 ·cases i<;>simp [OT.insts,Zb0] at hi
 ·cases i<;>simp [OT.insts,Zb0] at hi
 ·exact ⟨bel.os.trans R.pres.os,bel.tape.trans R.pres.tape,bel.output.trans R.pres.output,Nat.le_trans R.pres.size bel.size,fun k hk=>(mem k (R.klt k hk)).trans (R.pres.mem k hk)⟩
 ·obtain ⟨n,c,T,fz,hc,hx⟩:=R.glob g hg
  exact ⟨n,c,T,fz,(mem g (R.nlt g n)).trans hc,hx.mono fun a v ⟨x,y⟩=>⟨VRc.mono (fun _ h=>h) (fun b hb=>mem b (R.nlt b hb)) x,y⟩⟩
def Znw (xs:List Str) (sep:Str):Str:=sep.intercalate xs
def Zon:Zbb:=⟨0,[.sc (.list [.str]),.sc .str],[],[.list [.str],.str],⟨[.str],.sc .str,[]⟩,fun (xs,sep)=>need (fits xs.length&&fits (Znw xs sep).length) (some (Znw xs sep))⟩
theorem Zpz {P:Program} {C:Ctx} {ρ:Ren} (L:Lays.n156 P ρ) (X:Builder.Extra P ρ) {fn:Func} (hf:P.funcs[ρ.f 156]? = some fn) (hname:(fn.name == "runtime.NumGoroutine")=false) (hb:fn.body.isNone=false):Zak P C (ρ.f 156) Zon:=by
 refine Znf hf hname hb rfl fun d r hF ι N w vs hN hv=>?_
 obtain ⟨xs,sep⟩:=d
 obtain ⟨hfit,hF⟩:=ZaL hF
 cases hF
 simp only [Bool.and_eq_true] at hfit
 have h1:=ZfE hfit.1
 have h2:=ZfE hfit.2
 have hLIM:LIM=1099511627776:=rfl
 simp only [Den.list,Tp.insts,Tp.inst,Dat.av] at hv
 obtain ⟨l⟩:=vs
 dsimp only at hv
 match l,hv with
 | [a,b],hv=>
  simp only [VRL,VR] at hv
  obtain ⟨⟨ad,cap,rfl,hx⟩,rfl,_⟩:=hv
  rcases hx with rfl | ⟨b,o,⟨rfl,hcap⟩,hNb,c,T,fz,hheap,hcells⟩
  ·refine (Any.strings_Join_none L X ad cap ⟨sep.toArray⟩ w).mono ?_
   rintro e w' ⟨rfl,rfl⟩
   exact ⟨_,rfl,.refl _ _,by simp only [Den.list,Tp.inst,Dat.av,VR];rfl⟩
  ·have hmap:(xs.map fun s=>(⟨s.toArray⟩:ByteArray)).map (·.data.toList)=xs:=by simp [List.map_map,Function.comp_def]
   have key:=Any.strings_Join L X b o cap (xs.map fun s=>(⟨s.toArray⟩:ByteArray)) ⟨sep.toArray⟩ w (fun j x hj=>by
    rw [List.getElem?_map] at hj
    cases hxj:xs[j]? with
    | none=>rw [hxj] at hj;cases hj
    | some y=>
     rw [hxj] at hj
     simp only [Option.map_some,Option.some.injEq] at hj
     subst hj
     obtain ⟨v,e1,e2⟩:=hcells j y hxj 0 (.str y) rfl
     simp only [VRc,VRs] at e2
     subst e2
     simp only [Zax,Nat.mul_one,Nat.add_zero,Nat.zero_add] at e1
     simp [World.cell?,hheap,e1]) (hN b hNb) (by simp;omega) (by simpa using hcap) (by rw [hmap];show (Znw xs sep).length≤_;omega)
   rw [List.length_map] at key
   refine key.mono ?_
   rintro e w' ⟨rfl,bel⟩
   refine ⟨_,rfl,bel,?_⟩
   rw [hmap]
   simp only [Den.list,Tp.inst,Dat.av,VR]
   rfl
 | [],hv=>simp [VRL] at hv
 | [_],hv=>simp [VRL] at hv
 | _::_::_::_,hv=>simp [VRL] at hv
end Ev
end
section
namespace Ev
open Go Go.Proofs Go.Shelf
def Zsa (x:Str×Str):List (Str×Str)→List (Str×Str)
 | []=>[x]
 | y::l=>bif Op.bytesLess y.1 x.1 then y::Zsa x l else x::y::l
def Zgx:List (Str×Str)→List (Str×Str)
 | []=>[]
 | x::l=>Zsa x (Zgx l)
def Zer:List (Str×Str)→Bool
 | []=>true
 | x::l=>l.all (fun y=>!(x.1==y.1))&&Zer l
def ZlF (list:List (Str×Str)):Option (List (Str×Str)):=need (Zer list&&fits list.length) (some (Zgx list))
end Ev
end
section
namespace Go.Proofs
open Go.Shelf
def Tryz.lays156_ren:Go.Shelf.Ren:=⟨fun | 156=>53 | 165=>97 | 166=>98 | 169=>99 | 240=>137 | 241=>138 | 276=>177 | 277=>178 | n=>n,fun | 31=>65 | 9=>9 | 3=>3 | 4=>4 | 0=>0 | 20=>20 | 72=>109 | 76=>113 | 70=>107 | 37=>22 | 75=>112 | 127=>138 | 164=>179 | 5=>5 | 80=>115 | n=>n,fun | n=>n⟩
theorem Tryz.lays156:Go.Proofs.Lays.n156 Tryz.prog Tryz.lays156_ren:={
 mixed:=by kernel_rfl
 f156:=Tryz.func53.trans (congrArg some (by kernel_rfl))
 f165:=Tryz.func97.trans (congrArg some (by kernel_rfl))
 f166:=Tryz.func98.trans (congrArg some (by kernel_rfl))
 f169:=Tryz.func99.trans (congrArg some (by kernel_rfl))
 f240:=Tryz.func137.trans (congrArg some (by kernel_rfl))
 f241:=Tryz.func138.trans (congrArg some (by kernel_rfl))
 f276:=Tryz.func177.trans (congrArg some (by kernel_rfl))
 f277:=Tryz.func178.trans (congrArg some (by kernel_rfl))
 t0:=Tryz.underlying0
 a0:=Tryz.isAgg0
 z0:=Tryz.sizeOf0
 v0:=Tryz.zeroValue0
 t3:=Tryz.underlying3
 a3:=Tryz.isAgg3
 z3:=Tryz.sizeOf3
 v3:=Tryz.zeroValue3
 t4:=Tryz.underlying4
 a4:=Tryz.isAgg4
 z4:=Tryz.sizeOf4
 v4:=Tryz.zeroValue4
 t9:=Tryz.underlying9
 a9:=Tryz.isAgg9
 z9:=Tryz.sizeOf9
 v9:=Tryz.zeroValue9
 t20:=Tryz.underlying20
 a20:=Tryz.isAgg20
 z20:=Tryz.sizeOf20
 v20:=Tryz.zeroValue20
 t31:=Tryz.underlying65
 a31:=Tryz.isAgg65
 z31:=Tryz.sizeOf65
 v31:=Tryz.zeroValue65
 t37:=Tryz.underlying22
 a37:=Tryz.isAgg22
 z37:=Tryz.sizeOf22
 v37:=Tryz.zeroValue22
 t70:=Tryz.underlying107
 a70:=Tryz.isAgg107
 z70:=Tryz.sizeOf107
 v70:=Tryz.zeroValue107
 t72:=Tryz.underlying109
 a72:=Tryz.isAgg109
 z72:=Tryz.sizeOf109
 v72:=Tryz.zeroValue109
 t75:=Tryz.underlying112
 a75:=Tryz.isAgg112
 z75:=Tryz.sizeOf112
 v75:=Tryz.zeroValue112
 t76:=Tryz.underlying113
 a76:=Tryz.isAgg113
 z76:=Tryz.sizeOf113
 v76:=Tryz.zeroValue113
 t127:=Tryz.underlying138
 a127:=Tryz.isAgg138
 z127:=Tryz.sizeOf138
 v127:=Tryz.zeroValue138
 t164:=Tryz.underlying179
 a164:=Tryz.isAgg179
 z164:=Tryz.sizeOf179
 v164:=Tryz.zeroValue179 }
theorem Tryz.Builder_Extra_156:Builder.Extra Tryz.prog Tryz.lays156_ren:={
 sizeBuilder:=by kernel_rfl
 liesBuilder:=by kernel_rfl
 t5:=Tryz.underlying5
 a5:=Tryz.isAgg5
 z5:=Tryz.sizeOf5
 v5:=Tryz.zeroValue5
 infoByte:=by kernel_rfl
 cellsByte:=by kernel_rfl
 sizeByte:=by kernel_rfl
 neB5:=by decide }
def Tryz.laysSort_ren:Go.Shelf.Ren:=⟨fun | 6=>57 | 15=>102 | 14=>101 | 28=>147 | 29=>148 | 20=>139 | 21=>140 | 22=>141 | 23=>142 | 24=>143 | 25=>144 | 26=>145 | 27=>146 | 46=>179 | 47=>180 | 48=>181 | 49=>182 | 50=>183 | 57=>203 | n=>n,fun | 22=>23 | 24=>28 | 25=>75 | 3=>3 | 39=>119 | 0=>0 | 53=>147 | 55=>149 | 4=>4 | 46=>141 | 45=>140 | 50=>101 | 5=>5 | 9=>9 | 66=>182 | 70=>186 | 76=>200 | 77=>201 | n=>n,fun | n=>n⟩
theorem Tryz.laysSort:Go.Proofs.SlLaysF0.n6 Tryz.prog Tryz.laysSort_ren:={
 mixed:=by kernel_rfl
 f6:=⟨Tryz.f57.name,by decide,Tryz.func57.trans (congrArg some (by kernel_rfl))⟩
 f14:=⟨Tryz.f101.name,by decide,Tryz.func101.trans (congrArg some (by kernel_rfl))⟩
 f15:=Tryz.func102.trans (congrArg some (by kernel_rfl))
 f20:=⟨Tryz.f139.name,by decide,Tryz.func139.trans (congrArg some (by kernel_rfl))⟩
 f21:=⟨Tryz.f140.name,by decide,Tryz.func140.trans (congrArg some (by kernel_rfl))⟩
 f22:=⟨Tryz.f141.name,by decide,Tryz.func141.trans (congrArg some (by kernel_rfl))⟩
 f23:=⟨Tryz.f142.name,by decide,Tryz.func142.trans (congrArg some (by kernel_rfl))⟩
 f24:=⟨Tryz.f143.name,by decide,Tryz.func143.trans (congrArg some (by kernel_rfl))⟩
 f25:=⟨Tryz.f144.name,by decide,Tryz.func144.trans (congrArg some (by kernel_rfl))⟩
 f26:=⟨Tryz.f145.name,by decide,Tryz.func145.trans (congrArg some (by kernel_rfl))⟩
 f27:=⟨Tryz.f146.name,by decide,Tryz.func146.trans (congrArg some (by kernel_rfl))⟩
 f28:=Tryz.func147.trans (congrArg some (by kernel_rfl))
 f29:=Tryz.func148.trans (congrArg some (by kernel_rfl))
 f46:=⟨Tryz.f179.name,by decide,Tryz.func179.trans (congrArg some (by kernel_rfl))⟩
 f47:=Tryz.func180.trans (congrArg some (by kernel_rfl))
 f48:=Tryz.func181.trans (congrArg some (by kernel_rfl))
 f49:=⟨Tryz.f182.name,by decide,Tryz.func182.trans (congrArg some (by kernel_rfl))⟩
 f50:=⟨Tryz.f183.name,by decide,Tryz.func183.trans (congrArg some (by kernel_rfl))⟩
 f57:=⟨Tryz.f203.name,by decide,Tryz.func203.trans (congrArg some (by kernel_rfl))⟩
 t0:=Tryz.underlying0
 a0:=Tryz.isAgg0
 z0:=Tryz.sizeOf0
 v0:=Tryz.zeroValue0
 t3:=Tryz.underlying3
 a3:=Tryz.isAgg3
 z3:=Tryz.sizeOf3
 v3:=Tryz.zeroValue3
 t4:=Tryz.underlying4
 a4:=Tryz.isAgg4
 z4:=Tryz.sizeOf4
 v4:=Tryz.zeroValue4
 t5:=Tryz.underlying5
 a5:=Tryz.isAgg5
 z5:=Tryz.sizeOf5
 v5:=Tryz.zeroValue5
 t9:=Tryz.underlying9
 a9:=Tryz.isAgg9
 z9:=Tryz.sizeOf9
 v9:=Tryz.zeroValue9
 t22:=Tryz.underlying23
 a22:=Tryz.isAgg23
 z22:=Tryz.sizeOf23
 v22:=Tryz.zeroValue23
 t25:=Tryz.underlying75
 a25:=Tryz.isAgg75
 z25:=Tryz.sizeOf75
 v25:=Tryz.zeroValue75
 t39:=Tryz.underlying119
 a39:=Tryz.isAgg119
 z39:=Tryz.sizeOf119
 v39:=Tryz.zeroValue119
 t45:=Tryz.underlying140
 a45:=Tryz.isAgg140
 z45:=Tryz.sizeOf140
 v45:=Tryz.zeroValue140
 t46:=Tryz.underlying141
 a46:=Tryz.isAgg141
 z46:=Tryz.sizeOf141
 v46:=Tryz.zeroValue141
 t50:=Tryz.underlying101
 a50:=Tryz.isAgg101
 z50:=Tryz.sizeOf101
 v50:=Tryz.zeroValue101
 t53:=Tryz.underlying147
 a53:=Tryz.isAgg147
 z53:=Tryz.sizeOf147
 v53:=Tryz.zeroValue147
 t55:=Tryz.underlying149
 a55:=Tryz.isAgg149
 z55:=Tryz.sizeOf149
 v55:=Tryz.zeroValue149
 t66:=Tryz.underlying182
 a66:=Tryz.isAgg182
 z66:=Tryz.sizeOf182
 v66:=Tryz.zeroValue182
 t70:=Tryz.underlying186
 a70:=Tryz.isAgg186
 z70:=Tryz.sizeOf186
 v70:=Tryz.zeroValue186
 t76:=Tryz.underlying200
 a76:=Tryz.isAgg200
 z76:=Tryz.sizeOf200
 v76:=Tryz.zeroValue200
 t77:=Tryz.underlying201
 a77:=Tryz.isAgg201
 z77:=Tryz.sizeOf201
 v77:=Tryz.zeroValue201 }
end Go.Proofs
end
section
namespace Ev
open Go
theorem ZcW:∀a:Str,Op.bytesLess a a=false
 | []=>rfl
 | c::a=>by simp [Op.bytesLess,ZcW a]
theorem Zc8:∀{a b c:Str},Op.bytesLess a b=true→Op.bytesLess b c=true→Op.bytesLess a c=true
 | a,b,[],_,h=>by cases b<;>simp [Op.bytesLess] at h
 | [],b,z::c,_,_=>rfl
 | x::a,[],z::c,h,_=>by simp [Op.bytesLess] at h
 | x::a,y::b,z::c,h,k=>by
  simp only [Op.bytesLess,Bool.or_eq_true,decide_eq_true_eq,Bool.and_eq_true,beq_iff_eq] at h k ⊢
  rcases h with h | ⟨rfl,h⟩
  ·rcases k with k | ⟨rfl,k⟩
   ·exact .inl (UInt8.lt_trans h k)
   ·exact .inl h
  ·rcases k with k | ⟨rfl,k⟩
   ·exact .inl k
   ·exact .inr ⟨rfl,Zc8 h k⟩
theorem Zdu:∀a b:Str,Op.bytesLess a b=false→Op.bytesLess b a=false→a=b
 | [],[],_,_=>rfl
 | [],b::y,h,_=>by simp [Op.bytesLess] at h
 | a::x,[],_,h=>by simp [Op.bytesLess] at h
 | a::x,b::y,h,k=>by
  simp only [Op.bytesLess,Bool.or_eq_false_iff,decide_eq_false_iff_not,Bool.and_eq_false_iff,beq_eq_false_iff_ne] at h k
  have hab:a=b:=by
   have h1:=h.1
   have h2:=k.1
   rw [UInt8.lt_iff_toNat_lt] at h1 h2
   exact UInt8.toNat_inj.1 (by omega)
  subst hab
  have h2:Op.bytesLess x y=false:=by rcases h.2 with q | q;exact absurd rfl q;exact q
  have k2:Op.bytesLess y x=false:=by rcases k.2 with q | q;exact absurd rfl q;exact q
  rw [Zdu x y h2 k2]
theorem Zrb {a b:Str} (h:Op.bytesLess a b=true):Op.bytesLess b a=false:=by
 cases k:Op.bytesLess b a with
 | false=>rfl
 | true=>have:=Zc8 h k;rw [ZcW] at this;cases this
def Srt (l:List (Str×Str)):Prop:=l.Pairwise fun a b=>Op.bytesLess a.1 b.1=true
theorem Znc:∀{l m:List (Str×Str)},Srt l→Srt m→(∀x,x∈l↔x∈m)→l=m
 | [],[],_,_,_=>rfl
 | [],b::m,_,_,h=>by have:=(h b).2 (List.mem_cons_self ..);cases this
 | a::l,[],_,_,h=>by have:=(h a).1 (List.mem_cons_self ..);cases this
 | a::l,b::m,hl,hm,h=>by
  obtain ⟨l1,l2⟩:=List.pairwise_cons.1 hl
  obtain ⟨m1,m2⟩:=List.pairwise_cons.1 hm
  have hab:a=b:=by
   rcases List.mem_cons.1 ((h a).1 (List.mem_cons_self ..)) with e | e
   ·exact e
   ·rcases List.mem_cons.1 ((h b).2 (List.mem_cons_self ..)) with e' | e'
    ·exact e'.symm
    ·have q1:=m1 a e
     have q2:=Zrb (l1 b e')
     rw [q1] at q2;cases q2
  subst hab
  congr 1
  refine Znc l2 m2 fun x=>⟨fun hx=>?_,fun hx=>?_⟩
  ·rcases List.mem_cons.1 ((h x).1 (List.mem_cons_of_mem _ hx)) with rfl | q
   ·have:=l1 x hx;rw [ZcW] at this;cases this
   ·exact q
  ·rcases List.mem_cons.1 ((h x).2 (List.mem_cons_of_mem _ hx)) with rfl | q
   ·have:=m1 x hx;rw [ZcW] at this;cases this
   ·exact q
theorem Zk0 (x:Str×Str):∀(l:List (Str×Str)) (y:Str×Str),y∈Zsa x l↔y=x∨y∈l
 | [],y=>by simp [Zsa]
 | z::l,y=>by
  rw [Zsa]
  cases Op.bytesLess z.1 x.1 with
  | true=>rw [cond_true,List.mem_cons,Zk0 x l y,List.mem_cons];constructor<;>(rintro (h | h | h)<;>simp [h])
  | false=>rw [cond_false,List.mem_cons]
theorem Zoq (x:Str×Str):∀(l:List (Str×Str)),Srt l→(∀y∈l,y.1≠x.1)→Srt (Zsa x l)
 | [],_,_=>by rw [Zsa];exact List.pairwise_singleton ..
 | z::l,h,hx=>by
  obtain ⟨h1,h2⟩:=List.pairwise_cons.1 h
  rw [Zsa]
  cases hb:Op.bytesLess z.1 x.1 with
  | true=>
   rw [cond_true]
   refine List.pairwise_cons.2 ⟨fun y hy=>?_,Zoq x l h2 (fun y hy=>hx y (List.mem_cons_of_mem _ hy))⟩
   rcases (Zk0 x l y).1 hy with rfl | hy
   ·exact hb
   ·exact h1 y hy
  | false=>
   rw [cond_false]
   have hlt:Op.bytesLess x.1 z.1=true:=by
    cases k:Op.bytesLess x.1 z.1 with
    | true=>rfl
    | false=>exact absurd (Zdu _ _ hb k) (hx z (List.mem_cons_self ..))
   refine List.pairwise_cons.2 ⟨fun y hy=>?_,h⟩
   rcases List.mem_cons.1 hy with rfl | hy
   ·exact hlt
   ·exact Zc8 hlt (h1 y hy)
def Zp7 (l:List (Str×Str)):Prop:=l.Pairwise fun a b=>a.1≠b.1
theorem ZkL:∀(l:List (Str×Str)),Zp7 l→Srt (Zgx l)∧∀y,y∈Zgx l↔y∈l
 | [],_=>⟨List.Pairwise.nil,fun y=>Iff.rfl⟩
 | x::l,h=>by
  obtain ⟨h1,h2⟩:=List.pairwise_cons.1 h
  obtain ⟨i1,i2⟩:=ZkL l h2
  rw [Zgx]
  refine ⟨Zoq x _ i1 (fun y hy=>fun e=>h1 y ((i2 y).1 hy) e.symm),fun y=>?_⟩
  rw [Zk0,i2,List.mem_cons]
theorem ZiS:∀(l:List (Str×Str)),Zp7 l→Zer l=true
 | [],_=>rfl
 | x::l,h=>by
  obtain ⟨h1,h2⟩:=List.pairwise_cons.1 h
  rw [Zer,ZiS l h2,Bool.and_true,List.all_eq_true]
  intro y hy
  rw [beq_false_of_ne (h1 y hy)];rfl
theorem ZfQ:∀(l:List (Str×Str)),(Zgx l).length=l.length
 | []=>rfl
 | x::l=>by
  have hi:∀(m:List (Str×Str)),(Zsa x m).length=m.length+1:=fun m=>by
   induction m with
   | nil=>rfl
   | cons z m ih=>rw [Zsa];cases Op.bytesLess z.1 x.1<;>simp [ih]
  rw [Zgx,hi,ZfQ l];rfl
theorem Zkc:∀{l:List (Str×Str)},Zer l=true→Zp7 l
 | [],_=>List.Pairwise.nil
 | x::l,h=>by
  rw [Zer,Bool.and_eq_true,List.all_eq_true] at h
  refine List.pairwise_cons.2 ⟨fun y hy e=>?_,Zkc h.2⟩
  have:=h.1 y hy
  rw [e,beq_self_eq_true] at this
  cases this
end Ev
end
section
namespace Ev
open Go Go.Proofs Go.Shelf
abbrev FFT:FT:=[.str,.str]
def Zm0 (x:Str×Str):List Value:=[.string ⟨x.1.toArray⟩,.string ⟨x.2.toArray⟩]
def cfF (x y:Str×Str):Int:=if Op.bytesLess x.1 y.1=true then -1 else if Op.bytesLess y.1 x.1=true then 1 else 0
theorem ltF (x y:Str×Str):ltOf cfF x y=Op.bytesLess x.1 y.1:=by
 unfold ltOf cfF
 cases h:Op.bytesLess x.1 y.1 with
 | true=>rfl
 | false=>cases k:Op.bytesLess y.1 x.1<;>rfl
theorem swoF:Go.Sort.SWO (ltOf cfF) where
 irrefl x:=by rw [ltF];exact ZcW _
 trans x y z h k:=by rw [ltF] at h k ⊢;exact Zc8 h k
 ntrans x y z h k:=by
  rw [ltF] at h k ⊢
  cases q:Op.bytesLess x.1 z.1 with
  | false=>rfl
  | true=>
   cases e:Op.bytesLess y.1 x.1 with
   | true=>have:=Zc8 e q;rw [k] at this;cases this
   | false=>
    have:=Zdu _ _ h e
    rw [this,k] at q;cases q
theorem Zqt {list:List (Str×Str)} {d':Array (Str×Str)} (hu:Zp7 list) (hp:Go.Sort.PermIn 0 list.length list.toArray d') (hs:Go.Sort.SortedIn (ltOf cfF) 0 list.length d'):d'.toList=Zgx list:=by
 obtain ⟨p1,_,p3⟩:=hp
 have hsz:d'.size=list.length:=by rw [p1];simp
 have e1:(d'.extract 0 list.length).toList=d'.toList:=by rw [←hsz];simp
 have e2:(list.toArray.extract 0 list.length).toList=list:=by simp
 rw [e1,e2] at p3
 have hu':Zp7 d'.toList:=by
  unfold Zp7 at hu ⊢
  exact (p3.pairwise_iff (fun {a b} h=>fun e=>h e.symm)).2 hu
 obtain ⟨s1,s2⟩:=ZkL list hu
 refine Znc ?_ s1 (fun x=>by rw [p3.mem_iff,s2])
 unfold Srt
 rw [List.pairwise_iff_getElem]
 intro i j hi hj hij
 rw [Array.length_toList] at hi hj
 have h:=hs i j (Nat.zero_le _) hij (by omega)
 rw [ltF,getElem!_pos d' i hi,getElem!_pos d' j hj] at h
 have hne:=List.pairwise_iff_getElem.1 hu' i j (by rw [Array.length_toList];exact hi) (by rw [Array.length_toList];exact hj) hij
 rw [Array.getElem_toList,Array.getElem_toList] at hne ⊢
 cases k:Op.bytesLess d'[i].1 d'[j].1 with
 | true=>rfl
 | false=>exact absurd (Zdu _ _ k h) hne
theorem Zlb (o:Ob) (k:Nat) (h:Zb0 [o] k≠.dead):k=0:=by
 cases k with
 | zero=>rfl
 | succ k=>exact absurd (by cases k<;>simp [Zb0]) h
theorem ZtA {E:Env} {ι:Nat→Option Value} {N:Nat→Prop} {w w':World} {o o':Ob} {v:Value} (R:ZbF E ι N (Zb0 [o]) w) (e1:w'.os=w.os) (e2:w'.tape=w.tape) (e3:w'.output=w.output) (e4:w.heap.size≤w'.heap.size)
  (hN:∀b,N b→w'.heap[b]? = w.heap[b]?) (hK:∀b,E.keep b→w'.heap[b]? = w.heap[b]?) (hv:ι 0=some v) (hO:ObR ι N E.keep w' v o'):ZbF E ι N (Zb0 [o']) w':=by
 refine ⟨fun k hk=>?_,fun k m b e hk hm=>?_,fun b hb=>Nat.lt_of_lt_of_le (R.nlt b hb) e4,fun b hb=>Nat.lt_of_lt_of_le (R.klt b hb) e4,?_,fun g hg=>?_⟩
 ·obtain rfl:=Zlb o' k hk
  exact ⟨v,hv,hO⟩
 ·exact absurd ((Zlb o' k hk).trans (Zlb o' m hm).symm) e
 ·exact ⟨e1.trans R.pres.os,e2.trans R.pres.tape,e3.trans R.pres.output,Nat.le_trans R.pres.size e4,fun b hb=>(hK b hb).trans (R.pres.mem b hb)⟩
 ·obtain ⟨n,c,T,fz,hc,hx⟩:=R.glob g hg
  exact ⟨n,c,T,fz,(hN g n).trans hc,hx.mono fun a v ⟨x,y⟩=>⟨VRc.mono (fun _ h=>h) hN x,y⟩⟩
theorem Ztv {w:World} {b n:Nat} {d':Array (Str×Str)} {os:Array Obj} {c:Array Value} {T:TypeId} {fz:Nat×Nat} (h:w.heap[b]? = some (.cells c T fz)) :
  (sortWorldK Zm0 2 w b 0 n d' os).heap[b]? = some (.cells (Go.Sort.putCells id 0 (Go.Sort.flatK Zm0 2 d') c) T fz)∧(∀i,i<w.heap.size→i≠b→(sortWorldK Zm0 2 w b 0 n d' os).heap[i]? = w.heap[i]?)∧w.heap.size≤(sortWorldK Zm0 2 w b 0 n d' os).heap.size:=by
 have hb:b<w.heap.size:=(Array.getElem?_eq_some_iff.1 h).1
 unfold sortWorldK Go.Sort.putRowK Go.Sort.putRow Go.Sort.mapBlock Go.Sort.grow Go.Sort.ahead
 refine ⟨?_,fun i hi hne=>?_,?_⟩
 ·dsimp only
  rw [Array.getElem?_append_left (by simpa using hb),Array.getElem?_modify,if_pos rfl,h]
  rfl
 ·dsimp only
  rw [Array.getElem?_append_left (by simpa using hi),Array.getElem?_modify,if_neg (fun e=>hne e.symm)]
 ·simp
theorem Zo4 {P:Program} {C:Ctx} {ρ:Ren} {g:Nat} (L:SlLaysF0.n6 P ρ) (aE:∀w,(isAgg (ρ.t 24)).run P w=.ok true w) (zE:∀w,(Go.sizeOf (ρ.t 24)).run P w=.ok 2 w) (eg:∀args w,(callFunc g args).run P w=.ok (.enter g args) w)
  (hc:∀(x y:Str×Str) (w:World),Calls P g #[.agg (Zm0 x).toArray,.agg (Zm0 y).toArray] w fun e w'=>e=.returned (.int .i64 (cfF x y))∧∃q os',w'=Go.Sort.grow (w.drewN q) os')
  {fn:Func} (hf:P.funcs[ρ.f 6]? = some fn) (hname:(fn.name == "runtime.NumGoroutine")=false) (hb:fn.body.isNone=false) :
  Zak P C (ρ.f 6) ⟨1,[.full 0,.fn g [] []],[.arr [.str,.str]],[.list [.str,.str]],⟨[.list [.str,.str]],.tup [],[.arr [.str,.str]]⟩,fun (list:List (Str×Str))=>ZlF list⟩:=by
 refine ⟨rfl,fun list r hF E eP eC ι N w vs args l hinsts hv R new=>?_⟩
 subst eP eC
 have hF:ZlF list=some r:=hF
 obtain ⟨hcond,hF⟩:=ZaL hF
 obtain rfl:=Option.some.inj hF
 rw [Bool.and_eq_true] at hcond
 obtain ⟨hfr,hfit⟩:=hcond
 have hu:=Zkc hfr
 have hlim:list.length≤1099511627776:=by have:=ZfE hfit;simpa [LIM] using this
 simp only [Den.list,Tp.insts,Tp.inst,Dat.av,Prod.mk.injEq] at hinsts
 obtain ⟨rfl,rfl⟩:=hinsts
 obtain ⟨vl⟩:=vs
 dsimp only at hv
 match vl,hv with
 | [v0,v1],hv=>
  simp only [VRL,VR] at hv
  obtain ⟨⟨hι,_⟩,⟨fs,cs,rfl,hfs,hcs⟩,_⟩:=hv
  have h1:=VRL.len hfs
  have h2:=VRL.len hcs
  obtain rfl:fs= #[]:=by apply Array.ext';exact List.length_eq_zero_iff.1 h1.symm
  obtain rfl:cs= #[]:=by apply Array.ext';exact List.length_eq_zero_iff.1 h2.symm
  have R1:ZbF E ι N (Zb0 [Ob.arr FFT list]) w:=R
  obtain ⟨v',hv',a,cap,rfl,hle,hcase⟩:=R1.ob 0 (by simp [Zb0])
  rw [hι] at hv'
  obtain rfl:v0=.slice a list.length cap:=by simpa using hv'
  have fin:∀(w':World),w'.os=w.os→w'.tape=w.tape→w'.output=w.output→w.heap.size≤w'.heap.size→(∀b,N b→w'.heap[b]? = w.heap[b]?)→(∀b,E.keep b→w'.heap[b]? = w.heap[b]?)→
    ObR ι N E.keep w' (.slice a list.length cap) (.arr FFT (Zgx list))→
    ∃ι' N' v l',Tp.inst (fun j=>j) (.tup []) (Den.list [.list [.str,.str]] (Zgx list))=(v,l')∧VR ι' N' w' v (.tuple #[])∧
     ZbF E ι' N' (Zb0 (OT.insts (fun j=>j) [.arr [.str,.str]] l')) w'∧(∀i,1≤i→ι' i=none)∧ZjI E 1 ι N w ι' N' w':=by
   intro w' e1 e2 e3 e4 hN hK hO
   refine ⟨ι,N,_,_,rfl,?_,?_,new,⟨fun _ _=>rfl,fun _ h=>h,hN,fun _ h=>.inl h⟩⟩
   ·simp only [Tp.inst,Tp.insts,VR]
    exact ⟨#[],rfl,by simp [VRL]⟩
   ·exact ZtA (o':=.arr FFT (Zgx list)) R1 e1 e2 e3 e4 hN hK hι hO
  refine OpR.of_calls hf hname hb ?_
  rcases Nat.eq_zero_or_pos list.length with h0 | hpos
  ·have hnil:list=[]:=List.length_eq_zero_iff.1 h0
   subst hnil
   refine (AnyF.slices_SortFunc_none L a cap (.func (.func g) #[] #[]) w).mono ?_
   rintro e w' ⟨rfl,rfl⟩
   exact ⟨_,rfl,fin w' rfl rfl rfl (Nat.le_refl _) (fun _ _=>rfl) (fun _ _=>rfl) ⟨a,cap,rfl,hle,hcase⟩⟩
  ·rcases hcase with rfl | ⟨b,c,T,rfl,hown,hheap,hsz,hcells⟩
   ·omega
   have h2:Zax FFT=2:=rfl
   rw [h2] at hsz hcells
   have hblk:b<w.heap.size:=(Array.getElem?_eq_some_iff.1 hheap).1
   have hcell:∀i (hi:i<list.length),c[i*2]? = some (.string ⟨list[i].1.toArray⟩)∧c[i*2+1]? = some (.string ⟨list[i].2.toArray⟩):=fun i hi=>by
    obtain ⟨u,hu,hr⟩:=hcells i list[i] (List.getElem?_eq_getElem hi) 0 (.str list[i].1) rfl
    obtain ⟨u',hu',hr'⟩:=hcells i list[i] (List.getElem?_eq_getElem hi) 1 (.str list[i].2) rfl
    simp only [VRc,VRs] at hr hr'
    subst hr hr'
    exact ⟨hu,hu'⟩
   have hH:Go.Sort.HoldsK Zm0 2 w b 0 list.toArray:=by
    intro t ht
    rw [Go.Sort.size_flatK,List.size_toArray] at ht
    have hi:t/2<list.length:=by omega
    rw [Go.Sort.get_flatK _ _ _ _ (by rw [List.size_toArray];exact ht)]
    have hg:list.toArray[t/2]! = list[t/2]:=by rw [getElem!_pos list.toArray (t/2) (by simpa using hi)];simp
    rw [hg]
    obtain ⟨c0,c1⟩:=hcell (t/2) hi
    refine ⟨?_,by simp [World.frozen?,hheap]⟩
    rcases Nat.mod_two_eq_zero_or_one t with hm | hm
    ·rw [hm]
     have:c[t]? = some (.string ⟨list[t/2].1.toArray⟩):=by rw [←c0];congr 1;omega
     simp [World.cell?,hheap,this,Zm0]
    ·rw [hm]
     have:c[t]? = some (.string ⟨list[t/2].2.toArray⟩):=by rw [←c1];congr 1;omega
     simp [World.cell?,hheap,this,Zm0]
   have key:=AnyQ.slices_SortFunc L 2 aE zE Zm0 (fun _=>rfl) (fun x v hv=>by
    simp only [Zm0,List.mem_cons,List.not_mem_nil,or_false] at hv
    rcases hv with rfl | rfl<;>rfl) cfF swoF g #[] b 0 cap list.toArray w eg (fun m os dk hs x y=>by simpa using hc x y _) hH hblk (by rw [List.size_toArray];omega)
   rw [List.size_toArray] at key
   refine key.mono ?_
   rintro e w' ⟨rfl,d',n,os,hp,hs,rfl⟩
   have hd:=Zqt hu hp hs
   have hdl:d'.size=list.length:=by rw [hp.1];simp
   obtain ⟨k1,k2,k3⟩:=Ztv (n:=n) (d':=d') (os:=os) hheap
   have hN:∀b',N b'→(sortWorldK Zm0 2 w b 0 n d' os).heap[b']? = w.heap[b']?:=fun b' hb'=>k2 b' (R.nlt b' hb') (fun e=>hown.1 (e ▸ hb'))
   refine ⟨_,rfl,fin _ rfl rfl rfl k3 hN (fun b' hb'=>k2 b' (R.klt b' hb') (fun e=>hown.2 (e ▸ hb'))) ?_⟩
   refine ⟨some ⟨b,0,none⟩,cap,by rw [ZfQ],by rw [ZfQ];exact hle,.inr ⟨b,_,T,rfl,hown,k1,by rw [h2];simpa [Go.Sort.putCells] using hsz,?_⟩⟩
   rw [h2]
   intro m x hx f av hav
   rw [←hd] at hx
   have hm:m<d'.size:=by have:=(List.getElem?_eq_some_iff.1 hx).1;rwa [Array.length_toList] at this
   have hxe:d'[m]! = x:=by
    rw [Array.getElem?_toList,Array.getElem?_eq_getElem hm] at hx
    rw [getElem!_pos d' m hm];exact Option.some.inj hx
   have hf2:f<2:=by
    have:=(List.getElem?_eq_some_iff.1 hav).1
    rw [El.cells_len,h2] at this;exact this
   have hmc:m*2+f<c.size:=by omega
   have hput:(Go.Sort.putCells id 0 (Go.Sort.flatK Zm0 2 d') c)[m*2+f]? = some ((Zm0 x)[f]!):=by
    unfold Go.Sort.putCells
    rw [Array.getElem?_mapIdx,Array.getElem?_eq_getElem hmc]
    simp only [Option.map_some]
    rw [if_pos ⟨Nat.zero_le _,by rw [Go.Sort.size_flatK];omega⟩,Nat.sub_zero,Go.Sort.get_flatK _ _ _ _ (by omega),show (m*2+f)/2=m by omega,show (m*2+f)%2=f by omega,hxe]
    rfl
   refine ⟨_,hput,?_⟩
   obtain ⟨x1,x2⟩:=x
   rcases f with _ | _ | f
   ·have h0:av=Sc.str.av x1:=by simpa [El.cells] using hav.symm
    have h1:av=.str x1:=h0
    subst h1
    simp only [VRc,VRs];rfl
   ·have h0:av=Sc.str.av x2:=by simpa [El.cells] using hav.symm
    have h1:av=.str x2:=h0
    subst h1
    simp only [VRc,VRs];rfl
   ·omega
 | [],hv=>simp [VRL] at hv
 | [_],hv=>simp [VRL] at hv
 | _::_::_::_,hv=>simp [VRL] at hv
def Ztn (s t:ByteArray):Int:=if Op.bytesLess s.toList t.toList=true then -1 else if Op.bytesLess t.toList s.toList=true then 1 else 0
theorem Zt6 (x y:Str×Str):Ztn ⟨x.1.toArray⟩ ⟨y.1.toArray⟩=cfF x y:=by
 unfold Ztn cfF
 rw [ByteArray.toList_eq,ByteArray.toList_eq]
theorem hc_of {P:Program} {g:Nat} (h:∀(a b c d:ByteArray) (w:World),Calls P g #[.agg #[.string a,.string b],.agg #[.string c,.string d]] w fun e w'=>e=.returned (.int .i64 (Ztn a c))∧∃q os',w'=Go.Sort.grow (w.drewN q) os') :
  ∀(x y:Str×Str) (w:World),Calls P g #[.agg (Zm0 x).toArray,.agg (Zm0 y).toArray] w fun e w'=>e=.returned (.int .i64 (cfF x y))∧∃q os',w'=Go.Sort.grow (w.drewN q) os':=fun x y w=>by
 have k:=h ⟨x.1.toArray⟩ ⟨x.2.toArray⟩ ⟨y.1.toArray⟩ ⟨y.2.toArray⟩ w
 rw [Zt6] at k
 exact k
end Ev
end

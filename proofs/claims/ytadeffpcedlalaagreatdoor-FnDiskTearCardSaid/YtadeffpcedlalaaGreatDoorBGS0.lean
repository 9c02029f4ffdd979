/- Library functions by the kit's own contracts. Conditions: as stated. -/
import Derived.Shelf.Strings.OnBuilder
import Derived.Lib.ItoaNum
import Derived.Shelf.LaysM
import Derived.Shelf.Strconv.Itoa3
import Derived.Test.YtadeffpcedlalaaGreatDoorProg
import Derived.Test.YtadeffpcedlalaaGreatDoorBGA2
set_option linter.unusedVariables false
set_option linter.unusedSimpArgs false
section
namespace Ev
open Go Go.Proofs Go.Shelf
theorem ZrG {P:Program} {C:Ctx} {f:Nat} {fn:Func} {sargs:List Tp} {ids ods:List DT} {res:Tp} {F:Den ids→Option (Den ods)} (hf:P.funcs[f]? = some fn) (hname:(fn.name == "runtime.NumGoroutine")=false) (hb:fn.body.isNone=false)
  (hwf:(ZaK.mk 0 sargs [] ids ⟨ods,res,[]⟩ F).wf=true)
  (h:∀(d:Den ids) (r:Den ods),F d=some r→∀(ι:Nat→Option Value) (N:Nat→Prop) (w:World) (vs:Array Value),(∀b,N b→b<w.heap.size)→VRL ι N w (Tp.insts (fun j=>j) sargs (Den.list ids d)).1 vs.toList→
   Calls P f vs w fun e w'=>∃val,e=.returned val∧RowKit.Below w.heap.size w w'∧VR ι N w' (res.inst (fun j=>j) (Den.list ods r)).1 val):Zah P C f ⟨0,sargs,[],ids,⟨ods,res,[]⟩,F⟩:=by
 refine ⟨hwf,fun d r hF E eP eC ι N w vs args l hinsts hv R new=>?_⟩
 subst eP eC
 refine OpR.of_calls hf hname hb ((h d r hF ι N w vs R.nlt (by rw [hinsts];exact hv)).mono ?_)
 rintro e w' ⟨val,rfl,bel,hr⟩
 have mem:∀b,b<w.heap.size→w'.heap[b]? = w.heap[b]?:=bel.block
 refine ⟨val,rfl,ι,N,_,_,rfl,hr,?_,fun i _=>new i (Nat.zero_le _),⟨fun i hi=>absurd hi (by simp),fun _ h=>h,fun b hb=>mem b (R.nlt b hb),fun _ h=>.inl h⟩⟩
 refine ⟨fun i hi=>?_,fun i j b e hi=>?_,fun b hb=>Nat.lt_of_lt_of_le (R.nlt b hb) bel.size,fun b hb=>Nat.lt_of_lt_of_le (R.klt b hb) bel.size,?_,fun g hg=>?_⟩
 ·cases i<;>simp [OT.insts,Zda] at hi
 ·cases i<;>simp [OT.insts,Zda] at hi
 ·exact ⟨bel.os.trans R.pres.os,bel.tape.trans R.pres.tape,bel.output.trans R.pres.output,Nat.le_trans R.pres.size bel.size,fun k hk=>(mem k (R.klt k hk)).trans (R.pres.mem k hk)⟩
 ·obtain ⟨n,c,T,fz,hc,hx⟩:=R.glob g hg
  exact ⟨n,c,T,fz,(mem g (R.nlt g n)).trans hc,hx.mono fun a v ⟨x,y⟩=>⟨VRc.mono (fun _ h=>h) (fun b hb=>mem b (R.nlt b hb)) x,y⟩⟩
def Zr4 (xs:List Str) (sep:Str):Str:=sep.intercalate xs
def Zs9:ZaK:=⟨0,[.sc (.list [.str]),.sc .str],[],[.list [.str],.str],⟨[.str],.sc .str,[]⟩,fun (xs,sep)=>need (fits xs.length&&fits (Zr4 xs sep).length) (some (Zr4 xs sep))⟩
theorem Zuj {P:Program} {C:Ctx} {ρ:Ren} (L:Lays.n156 P ρ) (X:Builder.Extra P ρ) {fn:Func} (hf:P.funcs[ρ.f 156]? = some fn) (hname:(fn.name == "runtime.NumGoroutine")=false) (hb:fn.body.isNone=false):Zah P C (ρ.f 156) Zs9:=by
 refine ZrG hf hname hb rfl fun d r hF ι N w vs hN hv=>?_
 obtain ⟨xs,sep⟩:=d
 obtain ⟨hfit,hF⟩:=Zbd hF
 cases hF
 simp only [Bool.and_eq_true] at hfit
 have h1:=Zj3 hfit.1
 have h2:=Zj3 hfit.2
 have hLIM:LIM=1099511627776:=rfl
 simp only [Den.list,Tp.insts,Tp.inst,Dat.av] at hv
 obtain ⟨l⟩:=vs
 dsimp only at hv
 match l,hv with
 | [a,b],hv=>
  simp only [VRL,VR] at hv
  obtain ⟨⟨ad,cap,rfl,hx⟩,rfl,_⟩:=hv
  rcases hx with rfl | ⟨b,o,⟨rfl,hcap⟩,hNb,c,T,fz,hheap,hcells⟩
  ·refine (Any.strings_Join_none L X ad cap ⟨sep.toArray⟩ w).mono ?_
   rintro e w' ⟨rfl,rfl⟩
   exact ⟨_,rfl,.refl _ _,by simp only [Den.list,Tp.inst,Dat.av,VR];rfl⟩
  ·have hmap:(xs.map fun s=>(⟨s.toArray⟩:ByteArray)).map (·.data.toList)=xs:=by simp [List.map_map,Function.comp_def]
   have key:=Any.strings_Join L X b o cap (xs.map fun s=>(⟨s.toArray⟩:ByteArray)) ⟨sep.toArray⟩ w (fun j x hj=>by
    rw [List.getElem?_map] at hj
    cases hxj:xs[j]? with
    | none=>rw [hxj] at hj;cases hj
    | some y=>
     rw [hxj] at hj
     simp only [Option.map_some,Option.some.injEq] at hj
     subst hj
     obtain ⟨v,e1,e2⟩:=hcells j y hxj 0 (.str y) rfl
     simp only [VRc,VRs] at e2
     subst e2
     simp only [ZaM,Nat.mul_one,Nat.add_zero,Nat.zero_add] at e1
     simp [World.cell?,hheap,e1]) (hN b hNb) (by simp;omega) (by simpa using hcap) (by rw [hmap];show (Zr4 xs sep).length≤_;omega)
   rw [List.length_map] at key
   refine key.mono ?_
   rintro e w' ⟨rfl,bel⟩
   refine ⟨_,rfl,bel,?_⟩
   rw [hmap]
   simp only [Den.list,Tp.inst,Dat.av,VR]
   rfl
 | [],hv=>simp [VRL] at hv
 | [_],hv=>simp [VRL] at hv
 | _::_::_::_,hv=>simp [VRL] at hv
end Ev
end
section
namespace Ev
open Go Go.Proofs Go.Shelf
def ZyO (n:Int):Option Str:=need (decide (-9223372036854775808≤n)&&decide (n≤9223372036854775807)) (some (Lib.itoa n))
def Ztb:ZaK:=⟨0,[.sc (.int .i64)],[],[.int .i64],⟨[.str],.sc .str,[]⟩,fun (n:Int)=>ZyO n⟩
end Ev
end
section
namespace Go.Proofs
open Go.Shelf
def Tryz.lays156_ren:Go.Shelf.Ren:=⟨fun | 156=>53 | 165=>97 | 166=>98 | 169=>99 | 240=>137 | 241=>138 | 276=>177 | 277=>178 | n=>n,fun | 31=>65 | 9=>9 | 3=>3 | 4=>4 | 0=>0 | 20=>20 | 72=>109 | 76=>113 | 70=>107 | 37=>22 | 75=>112 | 127=>138 | 164=>179 | 5=>5 | 80=>115 | n=>n,fun | n=>n⟩
theorem Tryz.lays156:Go.Proofs.Lays.n156 Tryz.prog Tryz.lays156_ren:={
 mixed:=by kernel_rfl
 f156:=Tryz.func53.trans (congrArg some (by kernel_rfl))
 f165:=Tryz.func97.trans (congrArg some (by kernel_rfl))
 f166:=Tryz.func98.trans (congrArg some (by kernel_rfl))
 f169:=Tryz.func99.trans (congrArg some (by kernel_rfl))
 f240:=Tryz.func137.trans (congrArg some (by kernel_rfl))
 f241:=Tryz.func138.trans (congrArg some (by kernel_rfl))
 f276:=Tryz.func177.trans (congrArg some (by kernel_rfl))
 f277:=Tryz.func178.trans (congrArg some (by kernel_rfl))
 t0:=Tryz.underlying0
 a0:=Tryz.isAgg0
 z0:=Tryz.sizeOf0
 v0:=Tryz.zeroValue0
 t3:=Tryz.underlying3
 a3:=Tryz.isAgg3
 z3:=Tryz.sizeOf3
 v3:=Tryz.zeroValue3
 t4:=Tryz.underlying4
 a4:=Tryz.isAgg4
 z4:=Tryz.sizeOf4
 v4:=Tryz.zeroValue4
 t9:=Tryz.underlying9
 a9:=Tryz.isAgg9
 z9:=Tryz.sizeOf9
 v9:=Tryz.zeroValue9
 t20:=Tryz.underlying20
 a20:=Tryz.isAgg20
 z20:=Tryz.sizeOf20
 v20:=Tryz.zeroValue20
 t31:=Tryz.underlying65
 a31:=Tryz.isAgg65
 z31:=Tryz.sizeOf65
 v31:=Tryz.zeroValue65
 t37:=Tryz.underlying22
 a37:=Tryz.isAgg22
 z37:=Tryz.sizeOf22
 v37:=Tryz.zeroValue22
 t70:=Tryz.underlying107
 a70:=Tryz.isAgg107
 z70:=Tryz.sizeOf107
 v70:=Tryz.zeroValue107
 t72:=Tryz.underlying109
 a72:=Tryz.isAgg109
 z72:=Tryz.sizeOf109
 v72:=Tryz.zeroValue109
 t75:=Tryz.underlying112
 a75:=Tryz.isAgg112
 z75:=Tryz.sizeOf112
 v75:=Tryz.zeroValue112
 t76:=Tryz.underlying113
 a76:=Tryz.isAgg113
 z76:=Tryz.sizeOf113
 v76:=Tryz.zeroValue113
 t127:=Tryz.underlying138
 a127:=Tryz.isAgg138
 z127:=Tryz.sizeOf138
 v127:=Tryz.zeroValue138
 t164:=Tryz.underlying179
 a164:=Tryz.isAgg179
 z164:=Tryz.sizeOf179
 v164:=Tryz.zeroValue179 }
theorem Tryz.Builder_Extra_156:Builder.Extra Tryz.prog Tryz.lays156_ren:={
 sizeBuilder:=by kernel_rfl
 liesBuilder:=by kernel_rfl
 t5:=Tryz.underlying5
 a5:=Tryz.isAgg5
 z5:=Tryz.sizeOf5
 v5:=Tryz.zeroValue5
 infoByte:=by kernel_rfl
 cellsByte:=by kernel_rfl
 sizeByte:=by kernel_rfl
 neB5:=by decide }
def Tryz.laysM171_ren:Go.Shelf.Ren:=⟨fun | 171=>80 | 243=>130 | 246=>172 | 283=>192 | 284=>193 | 285=>194 | 286=>195 | 129=>148 | 317=>211 | 318=>212 | 319=>213 | 320=>214 | 337=>233 | 338=>234 | n=>n,fun | 3=>3 | 9=>9 | 2=>2 | 4=>4 | 171=>193 | 0=>0 | 53=>149 | 37=>22 | 5=>5 | 173=>195 | 212=>215 | 51=>147 | 20=>20 | 213=>216 | 46=>119 | 232=>233 | 233=>234 | n=>n,fun | 17=>2 | 18=>5 | 19=>6 | n=>n⟩
theorem Tryz.laysM171:Go.Proofs.LaysM.n171 Tryz.prog Tryz.laysM171_ren:={
 mixed:=by kernel_rfl
 f129:=Tryz.func148.trans (congrArg some (by kernel_rfl))
 f171:=Tryz.func80.trans (congrArg some (by kernel_rfl))
 f243:=Tryz.func130.trans (congrArg some (by kernel_rfl))
 f246:=Tryz.func172.trans (congrArg some (by kernel_rfl))
 f283:=Tryz.func192.trans (congrArg some (by kernel_rfl))
 f284:=Tryz.func193.trans (congrArg some (by kernel_rfl))
 f285:=Tryz.func194.trans (congrArg some (by kernel_rfl))
 f286:=Tryz.func195.trans (congrArg some (by kernel_rfl))
 f317:=Tryz.func211.trans (congrArg some (by kernel_rfl))
 f318:=Tryz.func212.trans (congrArg some (by kernel_rfl))
 f319:=Tryz.func213.trans (congrArg some (by kernel_rfl))
 f320:=Tryz.func214.trans (congrArg some (by kernel_rfl))
 f337:=Tryz.func233.trans (congrArg some (by kernel_rfl))
 f338:=Tryz.func234.trans (congrArg some (by kernel_rfl))
 t0:=Tryz.underlying0
 a0:=Tryz.isAgg0
 z0:=Tryz.sizeOf0
 v0:=Tryz.zeroValue0
 t2:=Tryz.underlying2
 a2:=Tryz.isAgg2
 z2:=Tryz.sizeOf2
 v2:=Tryz.zeroValue2
 t3:=Tryz.underlying3
 a3:=Tryz.isAgg3
 z3:=Tryz.sizeOf3
 v3:=Tryz.zeroValue3
 t4:=Tryz.underlying4
 a4:=Tryz.isAgg4
 z4:=Tryz.sizeOf4
 v4:=Tryz.zeroValue4
 t5:=Tryz.underlying5
 a5:=Tryz.isAgg5
 z5:=Tryz.sizeOf5
 v5:=Tryz.zeroValue5
 t9:=Tryz.underlying9
 a9:=Tryz.isAgg9
 z9:=Tryz.sizeOf9
 v9:=Tryz.zeroValue9
 t20:=Tryz.underlying20
 a20:=Tryz.isAgg20
 z20:=Tryz.sizeOf20
 v20:=Tryz.zeroValue20
 t37:=Tryz.underlying22
 a37:=Tryz.isAgg22
 z37:=Tryz.sizeOf22
 v37:=Tryz.zeroValue22
 t46:=Tryz.underlying119
 a46:=Tryz.isAgg119
 z46:=Tryz.sizeOf119
 v46:=Tryz.zeroValue119
 t51:=Tryz.underlying147
 a51:=Tryz.isAgg147
 z51:=Tryz.sizeOf147
 v51:=Tryz.zeroValue147
 t53:=Tryz.underlying149
 a53:=Tryz.isAgg149
 z53:=Tryz.sizeOf149
 v53:=Tryz.zeroValue149
 t171:=Tryz.underlying193
 a171:=Tryz.isAgg193
 z171:=Tryz.sizeOf193
 v171:=Tryz.zeroValue193
 t173:=Tryz.underlying195
 a173:=Tryz.isAgg195
 z173:=Tryz.sizeOf195
 v173:=Tryz.zeroValue195
 t212:=Tryz.underlying215
 a212:=Tryz.isAgg215
 z212:=Tryz.sizeOf215
 v212:=Tryz.zeroValue215
 t213:=Tryz.underlying216
 a213:=Tryz.isAgg216
 z213:=Tryz.sizeOf216
 t232:=Tryz.underlying233
 a232:=Tryz.isAgg233
 z232:=Tryz.sizeOf233
 v232:=Tryz.zeroValue233
 t233:=Tryz.underlying234
 a233:=Tryz.isAgg234
 z233:=Tryz.sizeOf234
 v233:=Tryz.zeroValue234
 g17:=by kernel_rfl
 g18:=by kernel_rfl
 g19:=by kernel_rfl
 i0:=by kernel_rfl
 i2:=by kernel_rfl
 i3:=by kernel_rfl
 i4:=by kernel_rfl
 i5:=by kernel_rfl
 i9:=by kernel_rfl
 i20:=by kernel_rfl
 i37:=by kernel_rfl
 i46:=by kernel_rfl
 i51:=by kernel_rfl
 i53:=by kernel_rfl
 i171:=by kernel_rfl
 i173:=by kernel_rfl
 i212:=by kernel_rfl
 i232:=by kernel_rfl
 i233:=by kernel_rfl
 m17:=by kernel_rfl
 m18:=by kernel_rfl
 m19:=by kernel_rfl }
end Go.Proofs
end
section
namespace Ev
open Go Go.Proofs Go.Shelf
theorem ZpM {P:Program} {C:Ctx} {f:Nat} {fn:Func} {sargs:List Tp} {ids ods:List DT} {res:Tp} {F:Den ids→Option (Den ods)} (hf:P.funcs[f]? = some fn) (hname:(fn.name == "runtime.NumGoroutine")=false) (hb:fn.body.isNone=false)
  (hwf:(ZaK.mk 0 sargs [] ids ⟨ods,res,[]⟩ F).wf=true)
  (h:∀(d:Den ids) (r:Den ods),F d=some r→∀(ι:Nat→Option Value) (N:Nat→Prop) (w:World) (vs:Array Value),(∀b,N b→b<w.heap.size)→
   (∀g,C.glob g≠[]→N g∧∃c T fz,w.heap[g]? = some (.cells c T fz)∧Zsn (fun a v=>VRc N w a v∧v.oneCell'=true) c (C.glob g))→VRL ι N w (Tp.insts (fun j=>j) sargs (Den.list ids d)).1 vs.toList→
   Calls P f vs w fun e w'=>∃val,e=.returned val∧RowKit.Below w.heap.size w w'∧VR ι N w' (res.inst (fun j=>j) (Den.list ods r)).1 val):Zah P C f ⟨0,sargs,[],ids,⟨ods,res,[]⟩,F⟩:=by
 refine ⟨hwf,fun d r hF E eP eC ι N w vs args l hinsts hv R new=>?_⟩
 subst eP eC
 refine OpR.of_calls hf hname hb ((h d r hF ι N w vs R.nlt R.glob (by rw [hinsts];exact hv)).mono ?_)
 rintro e w' ⟨val,rfl,bel,hr⟩
 have mem:∀b,b<w.heap.size→w'.heap[b]? = w.heap[b]?:=bel.block
 refine ⟨val,rfl,ι,N,_,_,rfl,hr,?_,fun i _=>new i (Nat.zero_le _),⟨fun i hi=>absurd hi (by simp),fun _ h=>h,fun b hb=>mem b (R.nlt b hb),fun _ h=>.inl h⟩⟩
 refine ⟨fun i hi=>?_,fun i j b e hi=>?_,fun b hb=>Nat.lt_of_lt_of_le (R.nlt b hb) bel.size,fun b hb=>Nat.lt_of_lt_of_le (R.klt b hb) bel.size,?_,fun g hg=>?_⟩
 ·cases i<;>simp [OT.insts,Zda] at hi
 ·cases i<;>simp [OT.insts,Zda] at hi
 ·exact ⟨bel.os.trans R.pres.os,bel.tape.trans R.pres.tape,bel.output.trans R.pres.output,Nat.le_trans R.pres.size bel.size,fun k hk=>(mem k (R.klt k hk)).trans (R.pres.mem k hk)⟩
 ·obtain ⟨n,c,T,fz,hc,hx⟩:=R.glob g hg
  exact ⟨n,c,T,fz,(mem g (R.nlt g n)).trans hc,hx.mono fun a v ⟨x,y⟩=>⟨VRc.mono (fun _ h=>h) (fun b hb=>mem b (R.nlt b hb)) x,y⟩⟩
theorem ZuE (w:World) (k:Nat) (os:Array Obj):RowKit.Below w.heap.size w (Sort.grow (w.drewN k) os):=by
 have hd:∀k (u:World),(u.drewN k).heap=u.heap∧(u.drewN k).os=u.os∧(u.drewN k).tape=u.tape∧(u.drewN k).output=u.output:=fun k=>by
  induction k with
  | zero=>intro u;exact ⟨rfl,rfl,rfl,rfl⟩
  | succ k ih=>intro u;exact ih u.drew
 obtain ⟨h1,h2,h3,h4⟩:=hd k w
 refine ⟨h2,h3,h4,?_,fun j hj=>?_⟩
 ·show w.heap.size≤((w.drewN k).heap++os).size
  rw [h1];simp
 ·show ((w.drewN k).heap++os)[j]? = w.heap[j]?
  rw [h1,Array.getElem?_append_left hj]
theorem Zuk {P:Program} {C:Ctx} {ρ:Ren} (L:LaysM.n171 P ρ) {g:Nat} (hg:P.globalNamed "internal/strconv.uint64pow10" = some g) (hC:C.glob g=Lib.pow10Tab.map fun n=>.int .u64 n) {fn:Func} (hf:P.funcs[ρ.f 171]? = some fn) (hname:(fn.name == "runtime.NumGoroutine")=false) (hb:fn.body.isNone=false):Zah P C (ρ.f 171) Ztb:=by
 refine ZpM hf hname hb rfl fun n r hF ι N w vs hN hG hv=>?_
 obtain ⟨hfit,hF⟩:=Zbd hF
 cases hF
 simp only [Bool.and_eq_true,decide_eq_true_eq] at hfit
 simp only [Den.list,Tp.insts,Tp.inst,Dat.av] at hv
 obtain ⟨l⟩:=vs
 dsimp only at hv
 match l,hv with
 | [a],hv=>
  simp only [VRL,VR] at hv
  obtain ⟨rfl,_⟩:=hv
  obtain ⟨_,c,T,fz,hheap,hsz,hcells⟩:=hG g (by rw [hC];simp [Lib.pow10Tab])
  have htab:Lib.TabIs P w "internal/strconv.uint64pow10" .u64 Lib.pow10Tab:=by
   unfold Lib.TabIs World.var?
   rw [hg]
   simp only [Option.bind_some,hheap]
   congr 1
   rw [hC,List.length_map] at hsz
   apply Array.ext (by simpa using hsz)
   intro i h1 h2
   have hi:i<Lib.pow10Tab.length:=by simpa using h2
   obtain ⟨v,hv,hr,_⟩:=hcells i (.int .u64 Lib.pow10Tab[i]) (by rw [hC,List.getElem?_map,List.getElem?_eq_getElem hi];rfl)
   simp only [VRc,VRs] at hr
   subst hr
   rw [Nat.zero_add,Array.getElem?_eq_getElem h1] at hv
   simpa using hv
  refine (Any.strconv_Itoa L n hfit.1 hfit.2 w htab).mono ?_
  rintro e w' ⟨rfl,k,os,rfl⟩
  exact ⟨_,rfl,ZuE w k os,by simp only [Den.list,Tp.inst,Dat.av,VR]⟩
 | [],hv=>simp [VRL] at hv
 | _::_::_,hv=>simp [VRL] at hv
end Ev
end

/- Library functions by the kit's own contracts. Conditions: as stated. -/
import Derived.Shelf.Strings.OnBuilder
import Derived.Lib.ItoaNum
import Derived.Shelf.LaysM
import Derived.Shelf.Strconv.Itoa3
import Derived.Shelf.SlGeneric
import Derived.Ground.SlsfProg
import Derived.Shelf.SlLaysF0
import Derived.Test.YtiphcamiidggcaaGreatDoorProg
import Derived.Test.YtiphcamiidggcaaGreatDoorBGA2
set_option linter.unusedVariables false
set_option linter.unusedSimpArgs false
section
namespace Ev
open Go Go.Proofs Go.Shelf
theorem Zqu {P:Program} {C:Ctx} {f:Nat} {fn:Func} {sargs:List Tp} {ids ods:List DT} {res:Tp} {F:Den ids→Option (Den ods)} (hf:P.funcs[f]? = some fn) (hname:(fn.name == "runtime.NumGoroutine")=false) (hb:fn.body.isNone=false)
  (hwf:(ZaT.mk 0 sargs [] ids ⟨ods,res,[]⟩ F).wf=true)
  (h:∀(d:Den ids) (r:Den ods),F d=some r→∀(ι:Nat→Option Value) (N:Nat→Prop) (w:World) (vs:Array Value),(∀b,N b→b<w.heap.size)→VRL ι N w (Tp.insts (fun j=>j) sargs (Den.list ids d)).1 vs.toList→
   Calls P f vs w fun e w'=>∃val,e=.returned val∧RowKit.Below w.heap.size w w'∧VR ι N w' (res.inst (fun j=>j) (Den.list ods r)).1 val):Zah P C f ⟨0,sargs,[],ids,⟨ods,res,[]⟩,F⟩:=by
 refine ⟨hwf,fun d r hF E eP eC ι N w vs args l hinsts hv R new=>?_⟩
 subst eP eC
 refine OpR.of_calls hf hname hb ((h d r hF ι N w vs R.nlt (by rw [hinsts];exact hv)).mono ?_)
 rintro e w' ⟨val,rfl,bel,hr⟩
 have mem:∀b,b<w.heap.size→w'.heap[b]? = w.heap[b]?:=bel.block
 refine ⟨val,rfl,ι,N,_,_,rfl,hr,?_,fun i _=>new i (Nat.zero_le _),⟨fun i hi=>absurd hi (by simp),fun _ h=>h,fun b hb=>mem b (R.nlt b hb),fun _ h=>.inl h⟩⟩
 refine ⟨fun i hi=>?_,fun i j b e hi=>?_,fun b hb=>Nat.lt_of_lt_of_le (R.nlt b hb) bel.size,fun b hb=>Nat.lt_of_lt_of_le (R.klt b hb) bel.size,?_,fun g hg=>?_⟩
 ·cases i<;>simp [OT.insts,ZcR] at hi
 ·cases i<;>simp [OT.insts,ZcR] at hi
 ·exact ⟨bel.os.trans R.pres.os,bel.tape.trans R.pres.tape,bel.output.trans R.pres.output,Nat.le_trans R.pres.size bel.size,fun k hk=>(mem k (R.klt k hk)).trans (R.pres.mem k hk)⟩
 ·obtain ⟨n,c,T,fz,hc,hx⟩:=R.glob g hg
  exact ⟨n,c,T,fz,(mem g (R.nlt g n)).trans hc,hx.mono fun a v ⟨x,y⟩=>⟨VRc.mono (fun _ h=>h) (fun b hb=>mem b (R.nlt b hb)) x,y⟩⟩
def ZqR (xs:List Str) (sep:Str):Str:=sep.intercalate xs
def ZrV:ZaT:=⟨0,[.sc (.list [.str]),.sc .str],[],[.list [.str],.str],⟨[.str],.sc .str,[]⟩,fun (xs,sep)=>need (fits xs.length&&fits (ZqR xs sep).length) (some (ZqR xs sep))⟩
theorem Zs4 {P:Program} {C:Ctx} {ρ:Ren} (L:Lays.n156 P ρ) (X:Builder.Extra P ρ) {fn:Func} (hf:P.funcs[ρ.f 156]? = some fn) (hname:(fn.name == "runtime.NumGoroutine")=false) (hb:fn.body.isNone=false):Zah P C (ρ.f 156) ZrV:=by
 refine Zqu hf hname hb rfl fun d r hF ι N w vs hN hv=>?_
 obtain ⟨xs,sep⟩:=d
 obtain ⟨hfit,hF⟩:=Za6 hF
 cases hF
 simp only [Bool.and_eq_true] at hfit
 have h1:=Zja hfit.1
 have h2:=Zja hfit.2
 have hLIM:LIM=1099511627776:=rfl
 simp only [Den.list,Tp.insts,Tp.inst,Dat.av] at hv
 obtain ⟨l⟩:=vs
 dsimp only at hv
 match l,hv with
 | [a,b],hv=>
  simp only [VRL,VR] at hv
  obtain ⟨⟨ad,cap,rfl,hx⟩,rfl,_⟩:=hv
  rcases hx with rfl | ⟨b,o,⟨rfl,hcap⟩,hNb,c,T,fz,hheap,hcells⟩
  ·refine (Any.strings_Join_none L X ad cap ⟨sep.toArray⟩ w).mono ?_
   rintro e w' ⟨rfl,rfl⟩
   exact ⟨_,rfl,.refl _ _,by simp only [Den.list,Tp.inst,Dat.av,VR];rfl⟩
  ·have hmap:(xs.map fun s=>(⟨s.toArray⟩:ByteArray)).map (·.data.toList)=xs:=by simp [List.map_map,Function.comp_def]
   have key:=Any.strings_Join L X b o cap (xs.map fun s=>(⟨s.toArray⟩:ByteArray)) ⟨sep.toArray⟩ w (fun j x hj=>by
    rw [List.getElem?_map] at hj
    cases hxj:xs[j]? with
    | none=>rw [hxj] at hj;cases hj
    | some y=>
     rw [hxj] at hj
     simp only [Option.map_some,Option.some.injEq] at hj
     subst hj
     obtain ⟨v,e1,e2⟩:=hcells j y hxj 0 (.str y) rfl
     simp only [VRc,VRs] at e2
     subst e2
     simp only [ZaI,Nat.mul_one,Nat.add_zero,Nat.zero_add] at e1
     simp [World.cell?,hheap,e1]) (hN b hNb) (by simp;omega) (by simpa using hcap) (by rw [hmap];show (ZqR xs sep).length≤_;omega)
   rw [List.length_map] at key
   refine key.mono ?_
   rintro e w' ⟨rfl,bel⟩
   refine ⟨_,rfl,bel,?_⟩
   rw [hmap]
   simp only [Den.list,Tp.inst,Dat.av,VR]
   rfl
 | [],hv=>simp [VRL] at hv
 | [_],hv=>simp [VRL] at hv
 | _::_::_::_,hv=>simp [VRL] at hv
end Ev
end
section
namespace Ev
open Go Go.Proofs Go.Shelf
def Zxo (n:Int):Option Str:=need (decide (-9223372036854775808≤n)&&decide (n≤9223372036854775807)) (some (Lib.itoa n))
def ZrW:ZaT:=⟨0,[.sc (.int .i64)],[],[.int .i64],⟨[.str],.sc .str,[]⟩,fun (n:Int)=>Zxo n⟩
end Ev
end
section
namespace Go.Proofs
open Go.Shelf
def Tryz.lays156_ren:Go.Shelf.Ren:=⟨fun | 156=>81 | 165=>134 | 166=>135 | 169=>136 | 240=>180 | 241=>181 | 276=>211 | 277=>212 | n=>n,fun | 31=>52 | 9=>9 | 3=>3 | 4=>4 | 0=>0 | 20=>20 | 72=>141 | 76=>145 | 70=>139 | 37=>31 | 75=>144 | 127=>177 | 164=>210 | 5=>5 | 80=>147 | n=>n,fun | n=>n⟩
theorem Tryz.lays156:Go.Proofs.Lays.n156 Tryz.prog Tryz.lays156_ren:={
 mixed:=by kernel_rfl
 f156:=Tryz.func81.trans (congrArg some (by kernel_rfl))
 f165:=Tryz.func134.trans (congrArg some (by kernel_rfl))
 f166:=Tryz.func135.trans (congrArg some (by kernel_rfl))
 f169:=Tryz.func136.trans (congrArg some (by kernel_rfl))
 f240:=Tryz.func180.trans (congrArg some (by kernel_rfl))
 f241:=Tryz.func181.trans (congrArg some (by kernel_rfl))
 f276:=Tryz.func211.trans (congrArg some (by kernel_rfl))
 f277:=Tryz.func212.trans (congrArg some (by kernel_rfl))
 t0:=Tryz.underlying0
 a0:=Tryz.isAgg0
 z0:=Tryz.sizeOf0
 v0:=Tryz.zeroValue0
 t3:=Tryz.underlying3
 a3:=Tryz.isAgg3
 z3:=Tryz.sizeOf3
 v3:=Tryz.zeroValue3
 t4:=Tryz.underlying4
 a4:=Tryz.isAgg4
 z4:=Tryz.sizeOf4
 v4:=Tryz.zeroValue4
 t9:=Tryz.underlying9
 a9:=Tryz.isAgg9
 z9:=Tryz.sizeOf9
 v9:=Tryz.zeroValue9
 t20:=Tryz.underlying20
 a20:=Tryz.isAgg20
 z20:=Tryz.sizeOf20
 v20:=Tryz.zeroValue20
 t31:=Tryz.underlying52
 a31:=Tryz.isAgg52
 z31:=Tryz.sizeOf52
 v31:=Tryz.zeroValue52
 t37:=Tryz.underlying31
 a37:=Tryz.isAgg31
 z37:=Tryz.sizeOf31
 v37:=Tryz.zeroValue31
 t70:=Tryz.underlying139
 a70:=Tryz.isAgg139
 z70:=Tryz.sizeOf139
 v70:=Tryz.zeroValue139
 t72:=Tryz.underlying141
 a72:=Tryz.isAgg141
 z72:=Tryz.sizeOf141
 v72:=Tryz.zeroValue141
 t75:=Tryz.underlying144
 a75:=Tryz.isAgg144
 z75:=Tryz.sizeOf144
 v75:=Tryz.zeroValue144
 t76:=Tryz.underlying145
 a76:=Tryz.isAgg145
 z76:=Tryz.sizeOf145
 v76:=Tryz.zeroValue145
 t127:=Tryz.underlying177
 a127:=Tryz.isAgg177
 z127:=Tryz.sizeOf177
 v127:=Tryz.zeroValue177
 t164:=Tryz.underlying210
 a164:=Tryz.isAgg210
 z164:=Tryz.sizeOf210
 v164:=Tryz.zeroValue210 }
theorem Tryz.Builder_Extra_156:Builder.Extra Tryz.prog Tryz.lays156_ren:={
 sizeBuilder:=by kernel_rfl
 liesBuilder:=by kernel_rfl
 t5:=Tryz.underlying5
 a5:=Tryz.isAgg5
 z5:=Tryz.sizeOf5
 v5:=Tryz.zeroValue5
 infoByte:=by kernel_rfl
 cellsByte:=by kernel_rfl
 sizeByte:=by kernel_rfl
 neB5:=by decide }
def Tryz.laysM171_ren:Go.Shelf.Ren:=⟨fun | 171=>111 | 243=>150 | 246=>185 | 283=>216 | 284=>217 | 285=>218 | 286=>219 | 129=>165 | 317=>233 | 318=>234 | 319=>235 | 320=>236 | 337=>256 | 338=>257 | n=>n,fun | 3=>3 | 9=>9 | 2=>2 | 4=>4 | 171=>214 | 0=>0 | 53=>165 | 37=>31 | 5=>5 | 173=>216 | 212=>229 | 51=>163 | 20=>20 | 213=>230 | 46=>128 | 232=>256 | 233=>257 | n=>n,fun | 17=>2 | 18=>5 | 19=>6 | n=>n⟩
theorem Tryz.laysM171:Go.Proofs.LaysM.n171 Tryz.prog Tryz.laysM171_ren:={
 mixed:=by kernel_rfl
 f129:=Tryz.func165.trans (congrArg some (by kernel_rfl))
 f171:=Tryz.func111.trans (congrArg some (by kernel_rfl))
 f243:=Tryz.func150.trans (congrArg some (by kernel_rfl))
 f246:=Tryz.func185.trans (congrArg some (by kernel_rfl))
 f283:=Tryz.func216.trans (congrArg some (by kernel_rfl))
 f284:=Tryz.func217.trans (congrArg some (by kernel_rfl))
 f285:=Tryz.func218.trans (congrArg some (by kernel_rfl))
 f286:=Tryz.func219.trans (congrArg some (by kernel_rfl))
 f317:=Tryz.func233.trans (congrArg some (by kernel_rfl))
 f318:=Tryz.func234.trans (congrArg some (by kernel_rfl))
 f319:=Tryz.func235.trans (congrArg some (by kernel_rfl))
 f320:=Tryz.func236.trans (congrArg some (by kernel_rfl))
 f337:=Tryz.func256.trans (congrArg some (by kernel_rfl))
 f338:=Tryz.func257.trans (congrArg some (by kernel_rfl))
 t0:=Tryz.underlying0
 a0:=Tryz.isAgg0
 z0:=Tryz.sizeOf0
 v0:=Tryz.zeroValue0
 t2:=Tryz.underlying2
 a2:=Tryz.isAgg2
 z2:=Tryz.sizeOf2
 v2:=Tryz.zeroValue2
 t3:=Tryz.underlying3
 a3:=Tryz.isAgg3
 z3:=Tryz.sizeOf3
 v3:=Tryz.zeroValue3
 t4:=Tryz.underlying4
 a4:=Tryz.isAgg4
 z4:=Tryz.sizeOf4
 v4:=Tryz.zeroValue4
 t5:=Tryz.underlying5
 a5:=Tryz.isAgg5
 z5:=Tryz.sizeOf5
 v5:=Tryz.zeroValue5
 t9:=Tryz.underlying9
 a9:=Tryz.isAgg9
 z9:=Tryz.sizeOf9
 v9:=Tryz.zeroValue9
 t20:=Tryz.underlying20
 a20:=Tryz.isAgg20
 z20:=Tryz.sizeOf20
 v20:=Tryz.zeroValue20
 t37:=Tryz.underlying31
 a37:=Tryz.isAgg31
 z37:=Tryz.sizeOf31
 v37:=Tryz.zeroValue31
 t46:=Tryz.underlying128
 a46:=Tryz.isAgg128
 z46:=Tryz.sizeOf128
 v46:=Tryz.zeroValue128
 t51:=Tryz.underlying163
 a51:=Tryz.isAgg163
 z51:=Tryz.sizeOf163
 v51:=Tryz.zeroValue163
 t53:=Tryz.underlying165
 a53:=Tryz.isAgg165
 z53:=Tryz.sizeOf165
 v53:=Tryz.zeroValue165
 t171:=Tryz.underlying214
 a171:=Tryz.isAgg214
 z171:=Tryz.sizeOf214
 v171:=Tryz.zeroValue214
 t173:=Tryz.underlying216
 a173:=Tryz.isAgg216
 z173:=Tryz.sizeOf216
 v173:=Tryz.zeroValue216
 t212:=Tryz.underlying229
 a212:=Tryz.isAgg229
 z212:=Tryz.sizeOf229
 v212:=Tryz.zeroValue229
 t213:=Tryz.underlying230
 a213:=Tryz.isAgg230
 z213:=Tryz.sizeOf230
 t232:=Tryz.underlying256
 a232:=Tryz.isAgg256
 z232:=Tryz.sizeOf256
 v232:=Tryz.zeroValue256
 t233:=Tryz.underlying257
 a233:=Tryz.isAgg257
 z233:=Tryz.sizeOf257
 v233:=Tryz.zeroValue257
 g17:=by kernel_rfl
 g18:=by kernel_rfl
 g19:=by kernel_rfl
 i0:=by kernel_rfl
 i2:=by kernel_rfl
 i3:=by kernel_rfl
 i4:=by kernel_rfl
 i5:=by kernel_rfl
 i9:=by kernel_rfl
 i20:=by kernel_rfl
 i37:=by kernel_rfl
 i46:=by kernel_rfl
 i51:=by kernel_rfl
 i53:=by kernel_rfl
 i171:=by kernel_rfl
 i173:=by kernel_rfl
 i212:=by kernel_rfl
 i232:=by kernel_rfl
 i233:=by kernel_rfl
 m17:=by kernel_rfl
 m18:=by kernel_rfl
 m19:=by kernel_rfl }
end Go.Proofs
end
section
namespace Ev
open Go Go.Proofs Go.Shelf
theorem Zoz {P:Program} {C:Ctx} {f:Nat} {fn:Func} {sargs:List Tp} {ids ods:List DT} {res:Tp} {F:Den ids→Option (Den ods)} (hf:P.funcs[f]? = some fn) (hname:(fn.name == "runtime.NumGoroutine")=false) (hb:fn.body.isNone=false)
  (hwf:(ZaT.mk 0 sargs [] ids ⟨ods,res,[]⟩ F).wf=true)
  (h:∀(d:Den ids) (r:Den ods),F d=some r→∀(ι:Nat→Option Value) (N:Nat→Prop) (w:World) (vs:Array Value),(∀b,N b→b<w.heap.size)→
   (∀g,C.glob g≠[]→N g∧∃c T fz,w.heap[g]? = some (.cells c T fz)∧Zq9 (fun a v=>VRc N w a v∧v.oneCell'=true) c (C.glob g))→VRL ι N w (Tp.insts (fun j=>j) sargs (Den.list ids d)).1 vs.toList→
   Calls P f vs w fun e w'=>∃val,e=.returned val∧RowKit.Below w.heap.size w w'∧VR ι N w' (res.inst (fun j=>j) (Den.list ods r)).1 val):Zah P C f ⟨0,sargs,[],ids,⟨ods,res,[]⟩,F⟩:=by
 refine ⟨hwf,fun d r hF E eP eC ι N w vs args l hinsts hv R new=>?_⟩
 subst eP eC
 refine OpR.of_calls hf hname hb ((h d r hF ι N w vs R.nlt R.glob (by rw [hinsts];exact hv)).mono ?_)
 rintro e w' ⟨val,rfl,bel,hr⟩
 have mem:∀b,b<w.heap.size→w'.heap[b]? = w.heap[b]?:=bel.block
 refine ⟨val,rfl,ι,N,_,_,rfl,hr,?_,fun i _=>new i (Nat.zero_le _),⟨fun i hi=>absurd hi (by simp),fun _ h=>h,fun b hb=>mem b (R.nlt b hb),fun _ h=>.inl h⟩⟩
 refine ⟨fun i hi=>?_,fun i j b e hi=>?_,fun b hb=>Nat.lt_of_lt_of_le (R.nlt b hb) bel.size,fun b hb=>Nat.lt_of_lt_of_le (R.klt b hb) bel.size,?_,fun g hg=>?_⟩
 ·cases i<;>simp [OT.insts,ZcR] at hi
 ·cases i<;>simp [OT.insts,ZcR] at hi
 ·exact ⟨bel.os.trans R.pres.os,bel.tape.trans R.pres.tape,bel.output.trans R.pres.output,Nat.le_trans R.pres.size bel.size,fun k hk=>(mem k (R.klt k hk)).trans (R.pres.mem k hk)⟩
 ·obtain ⟨n,c,T,fz,hc,hx⟩:=R.glob g hg
  exact ⟨n,c,T,fz,(mem g (R.nlt g n)).trans hc,hx.mono fun a v ⟨x,y⟩=>⟨VRc.mono (fun _ h=>h) (fun b hb=>mem b (R.nlt b hb)) x,y⟩⟩
theorem Ztm (w:World) (k:Nat) (os:Array Obj):RowKit.Below w.heap.size w (Sort.grow (w.drewN k) os):=by
 have hd:∀k (u:World),(u.drewN k).heap=u.heap∧(u.drewN k).os=u.os∧(u.drewN k).tape=u.tape∧(u.drewN k).output=u.output:=fun k=>by
  induction k with
  | zero=>intro u;exact ⟨rfl,rfl,rfl,rfl⟩
  | succ k ih=>intro u;exact ih u.drew
 obtain ⟨h1,h2,h3,h4⟩:=hd k w
 refine ⟨h2,h3,h4,?_,fun j hj=>?_⟩
 ·show w.heap.size≤((w.drewN k).heap++os).size
  rw [h1];simp
 ·show ((w.drewN k).heap++os)[j]? = w.heap[j]?
  rw [h1,Array.getElem?_append_left hj]
theorem Zs5 {P:Program} {C:Ctx} {ρ:Ren} (L:LaysM.n171 P ρ) {g:Nat} (hg:P.globalNamed "internal/strconv.uint64pow10" = some g) (hC:C.glob g=Lib.pow10Tab.map fun n=>.int .u64 n) {fn:Func} (hf:P.funcs[ρ.f 171]? = some fn) (hname:(fn.name == "runtime.NumGoroutine")=false) (hb:fn.body.isNone=false):Zah P C (ρ.f 171) ZrW:=by
 refine Zoz hf hname hb rfl fun n r hF ι N w vs hN hG hv=>?_
 obtain ⟨hfit,hF⟩:=Za6 hF
 cases hF
 simp only [Bool.and_eq_true,decide_eq_true_eq] at hfit
 simp only [Den.list,Tp.insts,Tp.inst,Dat.av] at hv
 obtain ⟨l⟩:=vs
 dsimp only at hv
 match l,hv with
 | [a],hv=>
  simp only [VRL,VR] at hv
  obtain ⟨rfl,_⟩:=hv
  obtain ⟨_,c,T,fz,hheap,hsz,hcells⟩:=hG g (by rw [hC];simp [Lib.pow10Tab])
  have htab:Lib.TabIs P w "internal/strconv.uint64pow10" .u64 Lib.pow10Tab:=by
   unfold Lib.TabIs World.var?
   rw [hg]
   simp only [Option.bind_some,hheap]
   congr 1
   rw [hC,List.length_map] at hsz
   apply Array.ext (by simpa using hsz)
   intro i h1 h2
   have hi:i<Lib.pow10Tab.length:=by simpa using h2
   obtain ⟨v,hv,hr,_⟩:=hcells i (.int .u64 Lib.pow10Tab[i]) (by rw [hC,List.getElem?_map,List.getElem?_eq_getElem hi];rfl)
   simp only [VRc,VRs] at hr
   subst hr
   rw [Nat.zero_add,Array.getElem?_eq_getElem h1] at hv
   simpa using hv
  refine (Any.strconv_Itoa L n hfit.1 hfit.2 w htab).mono ?_
  rintro e w' ⟨rfl,k,os,rfl⟩
  exact ⟨_,rfl,Ztm w k os,by simp only [Den.list,Tp.inst,Dat.av,VR]⟩
 | [],hv=>simp [VRL] at hv
 | _::_::_,hv=>simp [VRL] at hv
end Ev
end

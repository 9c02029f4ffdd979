/- Library functions by the kit's own contracts. Conditions: as stated. -/
import Derived.Shelf.Strings.OnBuilder
import Derived.Lib.ItoaNum
import Derived.Shelf.LaysM
import Derived.Shelf.Strconv.Itoa3
import Derived.Test.YtidncmffdaakdaaGreatDoorProg
import Derived.Shelf.SlLaysE0
import Derived.Shelf.SlicesE.Kit
import Derived.Shelf.RegionOpenPlain
import Derived.WalkKit
import Derived.Deep.LoopGhost
import Derived.Deep.RegionLaw
import Derived.Deep.Upon
import Derived.Deep.MidRow
import Derived.Lib.Walk
import Derived.Sort.WalkB12
import Derived.Lib.SliceRun
import Derived.Lib.SlicesDelete
import Derived.Lib.Builder
import Derived.Test.YtidncmffdaakdaaGreatDoorAGA2
set_option linter.unusedVariables false
set_option linter.unusedSimpArgs false
section
namespace Ev
open Go Go.Proofs Go.Shelf
theorem Zs4 {P:Program} {C:Ctx} {f:Nat} {fn:Func} {sargs:List Tp} {ids ods:List DT} {res:Tp} {F:Den ids→Option (Den ods)} (hf:P.funcs[f]? = some fn) (hname:(fn.name == "runtime.NumGoroutine")=false) (hb:fn.body.isNone=false)
  (hwf:(ZaI.mk 0 sargs [] ids ⟨ods,res,[]⟩ F).wf=true)
  (h:∀(d:Den ids) (r:Den ods),F d=some r→∀(ι:Nat→Option Value) (N:Nat→Prop) (w:World) (vs:Array Value),(∀b,N b→b<w.heap.size)→VRL ι N w (Tp.insts (fun j=>j) sargs (Den.list ids d)).1 vs.toList→
   Calls P f vs w fun e w'=>∃val,e=.returned val∧RowKit.Below w.heap.size w w'∧VR ι N w' (res.inst (fun j=>j) (Den.list ods r)).1 val):Zah P C f ⟨0,sargs,[],ids,⟨ods,res,[]⟩,F⟩:=by
 refine ⟨hwf,fun d r hF E eP eC ι N w vs args l hinsts hv R new=>?_⟩
 subst eP eC
 refine OpR.of_calls hf hname hb ((h d r hF ι N w vs R.nlt (by rw [hinsts];exact hv)).mono ?_)
 rintro e w' ⟨val,rfl,bel,hr⟩
 have mem:∀b,b<w.heap.size→w'.heap[b]? = w.heap[b]?:=bel.block
 refine ⟨val,rfl,ι,N,_,_,rfl,hr,?_,fun i _=>new i (Nat.zero_le _),⟨fun i hi=>absurd hi (by simp),fun _ h=>h,fun b hb=>mem b (R.nlt b hb),fun _ h=>.inl h⟩⟩
 refine ⟨fun i hi=>?_,fun i j b e hi=>?_,fun b hb=>Nat.lt_of_lt_of_le (R.nlt b hb) bel.size,fun b hb=>Nat.lt_of_lt_of_le (R.klt b hb) bel.size,?_,fun g hg=>?_⟩
 ·cases i<;>simp [OT.insts,ZcP] at hi
 ·cases i<;>simp [OT.insts,ZcP] at hi
 ·exact ⟨bel.os.trans R.pres.os,bel.tape.trans R.pres.tape,bel.output.trans R.pres.output,Nat.le_trans R.pres.size bel.size,fun k hk=>(mem k (R.klt k hk)).trans (R.pres.mem k hk)⟩
 ·obtain ⟨n,c,T,fz,hc,hx⟩:=R.glob g hg
  exact ⟨n,c,T,fz,(mem g (R.nlt g n)).trans hc,hx.mono fun a v ⟨x,y⟩=>⟨VRc.mono (fun _ h=>h) (fun b hb=>mem b (R.nlt b hb)) x,y⟩⟩
def ZtD (xs:List Str) (sep:Str):Str:=sep.intercalate xs
def ZuH:ZaI:=⟨0,[.sc (.list [.str]),.sc .str],[],[.list [.str],.str],⟨[.str],.sc .str,[]⟩,fun (xs,sep)=>need (fits xs.length&&fits (ZtD xs sep).length) (some (ZtD xs sep))⟩
theorem ZvZ {P:Program} {C:Ctx} {ρ:Ren} (L:Lays.n156 P ρ) (X:Builder.Extra P ρ) {fn:Func} (hf:P.funcs[ρ.f 156]? = some fn) (hname:(fn.name == "runtime.NumGoroutine")=false) (hb:fn.body.isNone=false):Zah P C (ρ.f 156) ZuH:=by
 refine Zs4 hf hname hb rfl fun d r hF ι N w vs hN hv=>?_
 obtain ⟨xs,sep⟩:=d
 obtain ⟨hfit,hF⟩:=Za5 hF
 cases hF
 simp only [Bool.and_eq_true] at hfit
 have h1:=Zh5 hfit.1
 have h2:=Zh5 hfit.2
 have hLIM:LIM=1099511627776:=rfl
 simp only [Den.list,Tp.insts,Tp.inst,Dat.av] at hv
 obtain ⟨l⟩:=vs
 dsimp only at hv
 match l,hv with
 | [a,b],hv=>
  simp only [VRL,VR] at hv
  obtain ⟨⟨ad,cap,rfl,hx⟩,rfl,_⟩:=hv
  rcases hx with rfl | ⟨b,o,⟨rfl,hcap⟩,hNb,c,T,fz,hheap,hcells⟩
  ·refine (Any.strings_Join_none L X ad cap ⟨sep.toArray⟩ w).mono ?_
   rintro e w' ⟨rfl,rfl⟩
   exact ⟨_,rfl,.refl _ _,by simp only [Den.list,Tp.inst,Dat.av,VR];rfl⟩
  ·have hmap:(xs.map fun s=>(⟨s.toArray⟩:ByteArray)).map (·.data.toList)=xs:=by simp [List.map_map,Function.comp_def]
   have key:=Any.strings_Join L X b o cap (xs.map fun s=>(⟨s.toArray⟩:ByteArray)) ⟨sep.toArray⟩ w (fun j x hj=>by
    rw [List.getElem?_map] at hj
    cases hxj:xs[j]? with
    | none=>rw [hxj] at hj;cases hj
    | some y=>
     rw [hxj] at hj
     simp only [Option.map_some,Option.some.injEq] at hj
     subst hj
     obtain ⟨v,e1,e2⟩:=hcells j y hxj 0 (.str y) rfl
     simp only [VRc,VRs] at e2
     subst e2
     simp only [ZaR,Nat.mul_one,Nat.add_zero,Nat.zero_add] at e1
     simp [World.cell?,hheap,e1]) (hN b hNb) (by simp;omega) (by simpa using hcap) (by rw [hmap];show (ZtD xs sep).length≤_;omega)
   rw [List.length_map] at key
   refine key.mono ?_
   rintro e w' ⟨rfl,bel⟩
   refine ⟨_,rfl,bel,?_⟩
   rw [hmap]
   simp only [Den.list,Tp.inst,Dat.av,VR]
   rfl
 | [],hv=>simp [VRL] at hv
 | [_],hv=>simp [VRL] at hv
 | _::_::_::_,hv=>simp [VRL] at hv
end Ev
end
section
namespace Ev
open Go Go.Proofs Go.Shelf
abbrev EFT:FT:=[.str,.int .i64,.int .i64,.int .i64,.int .i64,.int .i64,.int .i64,.str]
def Zb6:ZaI:=⟨0,[.full 0,.sc (.int .i64),.sc (.int .i64)],[.arr EFT],[.int .i64,.int .i64,.list EFT],⟨[.list EFT],.full 0,[.arr EFT]⟩,
 fun ((i,j,list):Int×Int×List (El EFT))=>need (decide (0≤i)&&(decide (i≤j)&&decide (j≤list.length))) (some (list.take i.toNat++list.drop j.toNat))⟩
def ZAE (n:Int):Option Str:=need (decide (-9223372036854775808≤n)&&decide (n≤9223372036854775807)) (some (Lib.itoa n))
def ZuI:ZaI:=⟨0,[.sc (.int .i64)],[],[.int .i64],⟨[.str],.sc .str,[]⟩,fun (n:Int)=>ZAE n⟩
def Zhx (ln:Str→Str→Option (Str×Str)):List Str→Str→Str→Option Str
 | [],_,out=>some out
 | s::r,z,out=>(ln s z).bind fun q=>need (fits (out.length+q.1.length)) (Zhx ln r q.2 (out++q.1))
def ZAl (zp:Option Str) (ln:Str→Str→Option (Str×Str)) (lines:List Str):Option Str:=need (fits lines.length) (zp.bind fun z=>Zhx ln (lines.take 30) z [])
end Ev
end
section
namespace Go.Proofs
open Go.Shelf
def Tryz.lays156_ren:Go.Shelf.Ren:=⟨fun | 156=>25 | 165=>62 | 166=>18 | 169=>20 | 240=>27 | 241=>103 | 276=>65 | 277=>153 | n=>n,fun | 31=>23 | 9=>9 | 3=>3 | 4=>4 | 0=>0 | 20=>20 | 72=>38 | 76=>41 | 70=>36 | 37=>22 | 75=>40 | 127=>72 | 164=>83 | 5=>5 | 80=>45 | n=>n,fun | n=>n⟩
theorem Tryz.lays156:Go.Proofs.Lays.n156 Tryz.prog Tryz.lays156_ren:={
 mixed:=by kernel_rfl
 f156:=Tryz.func25.trans (congrArg some (by kernel_rfl))
 f165:=Tryz.func62.trans (congrArg some (by kernel_rfl))
 f166:=Tryz.func18.trans (congrArg some (by kernel_rfl))
 f169:=Tryz.func20.trans (congrArg some (by kernel_rfl))
 f240:=Tryz.func27.trans (congrArg some (by kernel_rfl))
 f241:=Tryz.func103.trans (congrArg some (by kernel_rfl))
 f276:=Tryz.func65.trans (congrArg some (by kernel_rfl))
 f277:=Tryz.func153.trans (congrArg some (by kernel_rfl))
 t0:=Tryz.underlying0
 a0:=Tryz.isAgg0
 z0:=Tryz.sizeOf0
 v0:=Tryz.zeroValue0
 t3:=Tryz.underlying3
 a3:=Tryz.isAgg3
 z3:=Tryz.sizeOf3
 v3:=Tryz.zeroValue3
 t4:=Tryz.underlying4
 a4:=Tryz.isAgg4
 z4:=Tryz.sizeOf4
 v4:=Tryz.zeroValue4
 t9:=Tryz.underlying9
 a9:=Tryz.isAgg9
 z9:=Tryz.sizeOf9
 v9:=Tryz.zeroValue9
 t20:=Tryz.underlying20
 a20:=Tryz.isAgg20
 z20:=Tryz.sizeOf20
 v20:=Tryz.zeroValue20
 t31:=Tryz.underlying23
 a31:=Tryz.isAgg23
 z31:=Tryz.sizeOf23
 v31:=Tryz.zeroValue23
 t37:=Tryz.underlying22
 a37:=Tryz.isAgg22
 z37:=Tryz.sizeOf22
 v37:=Tryz.zeroValue22
 t70:=Tryz.underlying36
 a70:=Tryz.isAgg36
 z70:=Tryz.sizeOf36
 v70:=Tryz.zeroValue36
 t72:=Tryz.underlying38
 a72:=Tryz.isAgg38
 z72:=Tryz.sizeOf38
 v72:=Tryz.zeroValue38
 t75:=Tryz.underlying40
 a75:=Tryz.isAgg40
 z75:=Tryz.sizeOf40
 v75:=Tryz.zeroValue40
 t76:=Tryz.underlying41
 a76:=Tryz.isAgg41
 z76:=Tryz.sizeOf41
 v76:=Tryz.zeroValue41
 t127:=Tryz.underlying72
 a127:=Tryz.isAgg72
 z127:=Tryz.sizeOf72
 v127:=Tryz.zeroValue72
 t164:=Tryz.underlying83
 a164:=Tryz.isAgg83
 z164:=Tryz.sizeOf83
 v164:=Tryz.zeroValue83 }
theorem Tryz.Builder_Extra_156:Builder.Extra Tryz.prog Tryz.lays156_ren:={
 sizeBuilder:=by kernel_rfl
 liesBuilder:=by kernel_rfl
 t5:=Tryz.underlying5
 a5:=Tryz.isAgg5
 z5:=Tryz.sizeOf5
 v5:=Tryz.zeroValue5
 infoByte:=by kernel_rfl
 cellsByte:=by kernel_rfl
 sizeByte:=by kernel_rfl
 neB5:=by decide }
def Tryz.laysM171_ren:Go.Shelf.Ren:=⟨fun | 171=>34 | 243=>75 | 246=>110 | 283=>159 | 284=>160 | 285=>161 | 286=>162 | 129=>192 | 317=>191 | 318=>193 | 319=>194 | 320=>195 | 337=>206 | 338=>207 | n=>n,fun | 3=>3 | 9=>9 | 2=>2 | 4=>4 | 171=>153 | 0=>0 | 53=>154 | 37=>22 | 5=>5 | 173=>157 | 212=>175 | 51=>94 | 20=>20 | 213=>176 | 46=>98 | 232=>201 | 233=>202 | n=>n,fun | 17=>5 | 18=>6 | 19=>7 | n=>n⟩
theorem Tryz.laysM171:Go.Proofs.LaysM.n171 Tryz.prog Tryz.laysM171_ren:={
 mixed:=by kernel_rfl
 f129:=Tryz.func192.trans (congrArg some (by kernel_rfl))
 f171:=Tryz.func34.trans (congrArg some (by kernel_rfl))
 f243:=Tryz.func75.trans (congrArg some (by kernel_rfl))
 f246:=Tryz.func110.trans (congrArg some (by kernel_rfl))
 f283:=Tryz.func159.trans (congrArg some (by kernel_rfl))
 f284:=Tryz.func160.trans (congrArg some (by kernel_rfl))
 f285:=Tryz.func161.trans (congrArg some (by kernel_rfl))
 f286:=Tryz.func162.trans (congrArg some (by kernel_rfl))
 f317:=Tryz.func191.trans (congrArg some (by kernel_rfl))
 f318:=Tryz.func193.trans (congrArg some (by kernel_rfl))
 f319:=Tryz.func194.trans (congrArg some (by kernel_rfl))
 f320:=Tryz.func195.trans (congrArg some (by kernel_rfl))
 f337:=Tryz.func206.trans (congrArg some (by kernel_rfl))
 f338:=Tryz.func207.trans (congrArg some (by kernel_rfl))
 t0:=Tryz.underlying0
 a0:=Tryz.isAgg0
 z0:=Tryz.sizeOf0
 v0:=Tryz.zeroValue0
 t2:=Tryz.underlying2
 a2:=Tryz.isAgg2
 z2:=Tryz.sizeOf2
 v2:=Tryz.zeroValue2
 t3:=Tryz.underlying3
 a3:=Tryz.isAgg3
 z3:=Tryz.sizeOf3
 v3:=Tryz.zeroValue3
 t4:=Tryz.underlying4
 a4:=Tryz.isAgg4
 z4:=Tryz.sizeOf4
 v4:=Tryz.zeroValue4
 t5:=Tryz.underlying5
 a5:=Tryz.isAgg5
 z5:=Tryz.sizeOf5
 v5:=Tryz.zeroValue5
 t9:=Tryz.underlying9
 a9:=Tryz.isAgg9
 z9:=Tryz.sizeOf9
 v9:=Tryz.zeroValue9
 t20:=Tryz.underlying20
 a20:=Tryz.isAgg20
 z20:=Tryz.sizeOf20
 v20:=Tryz.zeroValue20
 t37:=Tryz.underlying22
 a37:=Tryz.isAgg22
 z37:=Tryz.sizeOf22
 v37:=Tryz.zeroValue22
 t46:=Tryz.underlying98
 a46:=Tryz.isAgg98
 z46:=Tryz.sizeOf98
 v46:=Tryz.zeroValue98
 t51:=Tryz.underlying94
 a51:=Tryz.isAgg94
 z51:=Tryz.sizeOf94
 v51:=Tryz.zeroValue94
 t53:=Tryz.underlying154
 a53:=Tryz.isAgg154
 z53:=Tryz.sizeOf154
 v53:=Tryz.zeroValue154
 t171:=Tryz.underlying153
 a171:=Tryz.isAgg153
 z171:=Tryz.sizeOf153
 v171:=Tryz.zeroValue153
 t173:=Tryz.underlying157
 a173:=Tryz.isAgg157
 z173:=Tryz.sizeOf157
 v173:=Tryz.zeroValue157
 t212:=Tryz.underlying175
 a212:=Tryz.isAgg175
 z212:=Tryz.sizeOf175
 v212:=Tryz.zeroValue175
 t213:=Tryz.underlying176
 a213:=Tryz.isAgg176
 z213:=Tryz.sizeOf176
 t232:=Tryz.underlying201
 a232:=Tryz.isAgg201
 z232:=Tryz.sizeOf201
 v232:=Tryz.zeroValue201
 t233:=Tryz.underlying202
 a233:=Tryz.isAgg202
 z233:=Tryz.sizeOf202
 v233:=Tryz.zeroValue202
 g17:=by kernel_rfl
 g18:=by kernel_rfl
 g19:=by kernel_rfl
 i0:=by kernel_rfl
 i2:=by kernel_rfl
 i3:=by kernel_rfl
 i4:=by kernel_rfl
 i5:=by kernel_rfl
 i9:=by kernel_rfl
 i20:=by kernel_rfl
 i37:=by kernel_rfl
 i46:=by kernel_rfl
 i51:=by kernel_rfl
 i53:=by kernel_rfl
 i171:=by kernel_rfl
 i173:=by kernel_rfl
 i212:=by kernel_rfl
 i232:=by kernel_rfl
 i233:=by kernel_rfl
 m17:=by kernel_rfl
 m18:=by kernel_rfl
 m19:=by kernel_rfl }
end Go.Proofs
end
section
namespace Ev
open Go Go.Proofs Go.Shelf
theorem Zll {P:Program} {C:Ctx} {f:Nat} {fn:Func} {sargs:List Tp} {ids ods:List DT} {res:Tp} {F:Den ids→Option (Den ods)} (hf:P.funcs[f]? = some fn) (hname:(fn.name == "runtime.NumGoroutine")=false) (hb:fn.body.isNone=false)
  (hwf:(ZaI.mk 0 sargs [] ids ⟨ods,res,[]⟩ F).wf=true)
  (h:∀(d:Den ids) (r:Den ods),F d=some r→∀(ι:Nat→Option Value) (N:Nat→Prop) (w:World) (vs:Array Value),(∀b,N b→b<w.heap.size)→
   (∀g,C.glob g≠[]→N g∧∃c T fz,w.heap[g]? = some (.cells c T fz)∧ZsO (fun a v=>VRc N w a v∧v.oneCell'=true) c (C.glob g))→VRL ι N w (Tp.insts (fun j=>j) sargs (Den.list ids d)).1 vs.toList→
   Calls P f vs w fun e w'=>∃val,e=.returned val∧RowKit.Below w.heap.size w w'∧VR ι N w' (res.inst (fun j=>j) (Den.list ods r)).1 val):Zah P C f ⟨0,sargs,[],ids,⟨ods,res,[]⟩,F⟩:=by
 refine ⟨hwf,fun d r hF E eP eC ι N w vs args l hinsts hv R new=>?_⟩
 subst eP eC
 refine OpR.of_calls hf hname hb ((h d r hF ι N w vs R.nlt R.glob (by rw [hinsts];exact hv)).mono ?_)
 rintro e w' ⟨val,rfl,bel,hr⟩
 have mem:∀b,b<w.heap.size→w'.heap[b]? = w.heap[b]?:=bel.block
 refine ⟨val,rfl,ι,N,_,_,rfl,hr,?_,fun i _=>new i (Nat.zero_le _),⟨fun i hi=>absurd hi (by simp),fun _ h=>h,fun b hb=>mem b (R.nlt b hb),fun _ h=>.inl h⟩⟩
 refine ⟨fun i hi=>?_,fun i j b e hi=>?_,fun b hb=>Nat.lt_of_lt_of_le (R.nlt b hb) bel.size,fun b hb=>Nat.lt_of_lt_of_le (R.klt b hb) bel.size,?_,fun g hg=>?_⟩
 ·cases i<;>simp [OT.insts,ZcP] at hi
 ·cases i<;>simp [OT.insts,ZcP] at hi
 ·exact ⟨bel.os.trans R.pres.os,bel.tape.trans R.pres.tape,bel.output.trans R.pres.output,Nat.le_trans R.pres.size bel.size,fun k hk=>(mem k (R.klt k hk)).trans (R.pres.mem k hk)⟩
 ·obtain ⟨n,c,T,fz,hc,hx⟩:=R.glob g hg
  exact ⟨n,c,T,fz,(mem g (R.nlt g n)).trans hc,hx.mono fun a v ⟨x,y⟩=>⟨VRc.mono (fun _ h=>h) (fun b hb=>mem b (R.nlt b hb)) x,y⟩⟩
theorem Zwl (w:World) (k:Nat) (os:Array Obj):RowKit.Below w.heap.size w (Sort.grow (w.drewN k) os):=by
 have hd:∀k (u:World),(u.drewN k).heap=u.heap∧(u.drewN k).os=u.os∧(u.drewN k).tape=u.tape∧(u.drewN k).output=u.output:=fun k=>by
  induction k with
  | zero=>intro u;exact ⟨rfl,rfl,rfl,rfl⟩
  | succ k ih=>intro u;exact ih u.drew
 obtain ⟨h1,h2,h3,h4⟩:=hd k w
 refine ⟨h2,h3,h4,?_,fun j hj=>?_⟩
 ·show w.heap.size≤((w.drewN k).heap++os).size
  rw [h1];simp
 ·show ((w.drewN k).heap++os)[j]? = w.heap[j]?
  rw [h1,Array.getElem?_append_left hj]
theorem Zv0 {P:Program} {C:Ctx} {ρ:Ren} (L:LaysM.n171 P ρ) {g:Nat} (hg:P.globalNamed "internal/strconv.uint64pow10" = some g) (hC:C.glob g=Lib.pow10Tab.map fun n=>.int .u64 n) {fn:Func} (hf:P.funcs[ρ.f 171]? = some fn) (hname:(fn.name == "runtime.NumGoroutine")=false) (hb:fn.body.isNone=false):Zah P C (ρ.f 171) ZuI:=by
 refine Zll hf hname hb rfl fun n r hF ι N w vs hN hG hv=>?_
 obtain ⟨hfit,hF⟩:=Za5 hF
 cases hF
 simp only [Bool.and_eq_true,decide_eq_true_eq] at hfit
 simp only [Den.list,Tp.insts,Tp.inst,Dat.av] at hv
 obtain ⟨l⟩:=vs
 dsimp only at hv
 match l,hv with
 | [a],hv=>
  simp only [VRL,VR] at hv
  obtain ⟨rfl,_⟩:=hv
  obtain ⟨_,c,T,fz,hheap,hsz,hcells⟩:=hG g (by rw [hC];simp [Lib.pow10Tab])
  have htab:Lib.TabIs P w "internal/strconv.uint64pow10" .u64 Lib.pow10Tab:=by
   unfold Lib.TabIs World.var?
   rw [hg]
   simp only [Option.bind_some,hheap]
   congr 1
   rw [hC,List.length_map] at hsz
   apply Array.ext (by simpa using hsz)
   intro i h1 h2
   have hi:i<Lib.pow10Tab.length:=by simpa using h2
   obtain ⟨v,hv,hr,_⟩:=hcells i (.int .u64 Lib.pow10Tab[i]) (by rw [hC,List.getElem?_map,List.getElem?_eq_getElem hi];rfl)
   simp only [VRc,VRs] at hr
   subst hr
   rw [Nat.zero_add,Array.getElem?_eq_getElem h1] at hv
   simpa using hv
  refine (Any.strconv_Itoa L n hfit.1 hfit.2 w htab).mono ?_
  rintro e w' ⟨rfl,k,os,rfl⟩
  exact ⟨_,rfl,Zwl w k os,by simp only [Den.list,Tp.inst,Dat.av,VR]⟩
 | [],hv=>simp [VRL] at hv
 | _::_::_,hv=>simp [VRL] at hv
end Ev
end
section
namespace Go.Proofs
open Go.Shelf Go.RowKit Go.Lib Go.Sort
variable {P:Program} {ρ:Ren}
theorem Zvs (w:World) (t e ty:TypeId) (z:Value) (ht:P.underlying t=some (.slice e)) (hv:∀w,(zeroValue e).run P w=.ok z w) (hz8:z.cells.size=8) (h1:∀u∈z.cells.toList,u.oneCell'=true) (b o n c:Nat) (hn:0<n)
  (hc:∀j,j<n*8→(w.cell? ⟨b,o+j,none⟩).isSome=true) (hf:∀j,j<n*8→w.frozen? ⟨b,o+j,none⟩=false) :
  (Builtin.clear_ #[t] ty #[.slice (some ⟨b,o,none⟩) n c]).run P w=.ok (.tuple #[]) (w.setCells b o (Builtin.zeroCells z.cells n).toList):=by
 have hl:(Builtin.zeroCells z.cells n).toList.length=n*8:=by simp [Builtin.zeroCells,hz8]
 have hst:=run_storeCells_cells (P:=P) b o (Builtin.zeroCells z.cells n).toList 0 w (by rw [hl];simpa using hc) (by rw [hl];simpa using hf) (by
  intro v hv'
  simp only [Builtin.zeroCells,Array.toList_map,List.mem_map] at hv'
  obtain ⟨i,_,rfl⟩:=hv'
  refine h1 _ ?_
  have:i%z.cells.size<z.cells.size:=Nat.mod_lt _ (by omega)
  rw [getElem!_pos z.cells _ this]
  exact Array.getElem_mem_toList this)
 simp only [Nat.add_zero] at hst
 obtain ⟨m,rfl⟩:∃m,n=m+1:=⟨n-1,by omega⟩
 simp [Builtin.clear_,run_underlying ht,hv,hst]
set_option maxHeartbeats 4000000 in
set_option maxRecDepth 1000000 in
theorem Zsr (L:SlLaysE0.n45 P ρ) (z23:∀w,(Go.sizeOf (ρ.t 23)).run P w=.ok 8 w) (a:Option Addr) (n cap i:Nat) (w:World) (hcap:n≤cap) (hi:i≤n) (hn:a=none→cap=0) :
  Calls P (ρ.f 45) #[.slice a n cap,.int .i64 i,.int .i64 i] w fun e w'=>e=.returned (.slice a n cap)∧w'=w:=by
 have mixed:=L.mixed;have t0:=L.t0;have a0:=L.a0;have z0:=L.z0;have v0:=L.v0;have t3:=L.t3;have a3:=L.a3;have z3:=L.z3;have v3:=L.v3;have t4:=L.t4;have a4:=L.a4;have z4:=L.z4;have v4:=L.v4;have t22:=L.t22;have a22:=L.a22;have z22:=L.z22;have v22:=L.v22
 rcases a with _ | ad
 ·have h0:=hn rfl
  subst h0
  obtain rfl:n=0:=by omega
  obtain rfl:i=0:=by omega
  obtain ⟨_,_,FG⟩:=L.f45
  go_enter FG,SlBodyN.n45_ntmps ρ
  go_wp2
  all_goals (go_ret;exact ⟨rfl,rfl⟩)
 ·obtain ⟨_,_,FG⟩:=L.f45
  go_enter FG,SlBodyN.n45_ntmps ρ
  go_wp2
  all_goals (go_ret;exact ⟨rfl,rfl⟩)
set_option maxHeartbeats 4000000 in
set_option maxRecDepth 1000000 in
theorem Zss (L:SlLaysE0.n45 P ρ) (z23:∀w,(Go.sizeOf (ρ.t 23)).run P w=.ok 8 w) (i0:TypeInfo) (hi0:P.info? (ρ.t 23)=some i0) (hz8:i0.size=8) (z:Value) (v23:∀w,(zeroValue (ρ.t 23)).run P w=.ok z w) (hzc:z.cells.size=8) (h1z:∀u∈z.cells.toList,u.oneCell'=true)
  (blk off n cap i j:Nat) (w:World) (cs:List Value) (hl:cs.length=n*8) (hc:∀t u,cs[t]? = some u→w.cell? ⟨blk,off+t,none⟩=some u) (hf:∀t,t<n*8→w.frozen? ⟨blk,off+t,none⟩=false) (h1:∀u∈cs,u.oneCell'=true)
  (hcap:n≤cap) (hlt:i<j) (hj:j≤n) :
  Calls P (ρ.f 45) #[.slice (some ⟨blk,off,none⟩) n cap,.int .i64 i,.int .i64 j] w fun e w'=>e=.returned (.slice (some ⟨blk,off,none⟩) (n-(j-i)) cap)∧
   w'=(w.drew.setCells blk (off+i*8) (cs.drop (j*8))).setCells blk (off+(i+(n-j))*8) (Builtin.zeroCells z.cells (n-(i+(n-j)))).toList:=by
 have mixed:=L.mixed;have t0:=L.t0;have a0:=L.a0;have z0:=L.z0;have v0:=L.v0;have t3:=L.t3;have a3:=L.a3;have z3:=L.z3;have v3:=L.v3;have t4:=L.t4;have a4:=L.a4;have z4:=L.z4;have v4:=L.v4;have t22:=L.t22;have a22:=L.a22;have z22:=L.z22;have v22:=L.v22
 have hsome:∀t,t<n*8→(w.cell? ⟨blk,off+t,none⟩).isSome=true:=fun t ht=>by
  rw [hc t cs[t] (List.getElem?_eq_getElem (by omega))];rfl
 obtain ⟨news,hnews⟩:∃news,news=cs.drop (j*8):=⟨_,rfl⟩
 have hlen:news.length=(n-j)*8:=by rw [hnews,List.length_drop];omega
 obtain ⟨A,hA,hsrc⟩:∃A:Addr,(if cap=j then some (⟨blk,off,none⟩:Addr) else some ⟨blk,off+j*8,none⟩)=some A∧Hid (∀t u,news[t]? = some u→w.drew.cell? (A.add t)=some u):=by
  by_cases h:cap=j
  ·refine ⟨⟨blk,off,none⟩,by simp [h],fun t u hu=>?_⟩
   have h0:news.length=0:=by rw [hlen];omega
   rw [List.length_eq_zero_iff.1 h0] at hu
   simp at hu
  ·refine ⟨⟨blk,off+j*8,none⟩,by simp [h],fun t u hu=>?_⟩
   rw [hnews,List.getElem?_drop] at hu
   rw [Addr.add_lit,show off+j*8+t=off+(j*8+t) by omega]
   exact hc _ _ hu
 have s1:Hid (news.length=(n-j)*8):=hlen
 have s2:Hid (∀u∈news,u.oneCell'=true):=by
  intro u hu
  rw [hnews] at hu
  exact h1 u (List.mem_of_mem_drop hu)
 have s3:Hid (∀t,t<news.length→(w.drew.cell? ⟨blk,off+i*8+t,none⟩).isSome=true∧w.drew.frozen? ⟨blk,off+i*8+t,none⟩=false):=by
  intro t ht
  rw [hlen] at ht
  rw [Nat.add_assoc]
  exact ⟨hsome _ (by omega),hf _ (by omega)⟩
 obtain ⟨W1,hW1⟩:∃W1,W1=w.drew.setCells blk (off+i*8) news:=⟨_,rfl⟩
 have hcl:∀ty,(Builtin.clear_ #[ρ.t 22] ty #[.slice (some ⟨blk,off+(i+(n-j))*8,none⟩) (n-(i+(n-j))) (cap-(i+(n-j)))]).run P W1=.ok (.tuple #[]) (W1.setCells blk (off+(i+(n-j))*8) (Builtin.zeroCells z.cells (n-(i+(n-j)))).toList):=
  fun ty=>Zvs W1 _ _ ty _ t22 v23 hzc h1z blk _ _ _ (by omega) (fun t ht=>by
   rw [hW1]
   exact World.isSome_setCells blk _ _ _ _ (by rw [Nat.add_assoc];exact hsome _ (by omega))) (fun t ht=>by
   rw [hW1,World.frozen?_setCells,Nat.add_assoc]
   exact hf _ (by omega))
 obtain ⟨Z,hZ⟩:∃Z,Z=(Builtin.zeroCells z.cells (n-(i+(n-j)))).toList:=⟨_,rfl⟩
 rw [←hZ] at hcl ⊢
 have hW:Hid (W1=w.drew.setCells blk (off+i*8) news):=hW1
 have X:Aside (W1=w.drew.setCells blk (off+i*8) (cs.drop (j*8))):=by rw [hW1,hnews];rfl
 have hic:i≤cap:=by omega
 have hjc:j≤cap:=by omega
 have hij:i≤j:=by omega
 have hne:¬i=j:=by omega
 clear hW1 hc hf h1 hnews hlen hsome hZ v23 hzc h1z
 obtain ⟨_,_,FG⟩:=L.f45
 go_enter FG,SlBodyN.n45_ntmps ρ
 go_wp2_with fail
 go_region_law_o (refine step_append_room rfl (.tmp 22) (.tmp 25) (ρ.t 22) rfl (ρ.t 23) i0 8 t22 hi0 hz8 blk off i cap (by simp [Act.eval,Act.put]) A (n-j) (cap-j) news (by simp [Act.eval,Act.put]) s1.out hsrc.out s2.out (by omega) s3.out ?_;rw [←hW.out])
 go_wp2
 go_ret
 refine ⟨by rw [show n-(j-i)=i+(n-j) by omega];rfl,?_⟩
 rw [←X.out]
end Go.Proofs
end
section
namespace Ev
open Go Go.Proofs Go.Shelf
theorem Zho {b:Nat} {T:TypeId} {fz:Nat×Nat}:∀(vs:List Value) (o:Nat) {w:World} {c:Array Value},w.heap[b]? = some (.cells c T fz)→o+vs.length≤c.size→
  ∃c',(w.setCells b o vs).heap[b]? = some (.cells c' T fz)∧c'.size=c.size∧∀p,c'[p]? = if o≤p∧p<o+vs.length then vs[p-o]? else c[p]?
 | [],o,w,c,h,_=>⟨c,h,rfl,fun p=>by rw [if_neg (by simp)]⟩
 | v::r,o,w,c,h,hl=>by
  rw [List.length_cons] at hl
  have h1:(w.setCell ⟨b,o,none⟩ v).heap[b]? = some (.cells (c.setIfInBounds o v) T fz):=by
   obtain ⟨hb,he⟩:=Array.getElem?_eq_some_iff.1 h
   simp [World.setCell,Array.getElem?_modify,h]
  obtain ⟨c',g1,g2,g3⟩:=Zho r (o+1) h1 (by simp;omega)
  refine ⟨c',g1,by simpa using g2,fun p=>?_⟩
  rw [g3 p,List.length_cons]
  by_cases e:p=o
  ·subst e
   rw [if_neg (by omega),if_pos (by omega),Nat.sub_self]
   rw [Array.getElem?_setIfInBounds_self_of_lt (by omega)];rfl
  ·by_cases q:o+1≤p∧p<o+1+r.length
   ·rw [if_pos q,if_pos (by omega),show p-o=p-(o+1)+1 by omega,List.getElem?_cons_succ]
   ·rw [if_neg q,if_neg (by omega)]
    simp [Array.getElem?_setIfInBounds,Ne.symm e]
theorem Zhf (b:Nat):∀(vs:List Value) (o:Nat) (w:World),(w.setCells b o vs).os=w.os∧(w.setCells b o vs).tape=w.tape∧(w.setCells b o vs).output=w.output∧(w.setCells b o vs).heap.size=w.heap.size∧∀i,i≠b→(w.setCells b o vs).heap[i]? = w.heap[i]?
 | [],o,w=>⟨rfl,rfl,rfl,rfl,fun _ _=>rfl⟩
 | v::r,o,w=>by
  obtain ⟨h1,h2,h3,h4,h5⟩:=Zhf b r (o+1) (w.setCell ⟨b,o,none⟩ v)
  refine ⟨h1.trans rfl,h2.trans rfl,h3.trans rfl,h4.trans (by simp [World.setCell]),fun i hi=>(h5 i hi).trans ?_⟩
  simp [World.setCell,Array.getElem?_modify,Ne.symm hi]
theorem Zsq {P:Program} {C:Ctx} {ρ:Ren} (L:SlLaysE0.n45 P ρ) (z23:∀w,(Go.sizeOf (ρ.t 23)).run P w=.ok 8 w) {D:TypeDesc} (hu:P.underlying (ρ.t 23)=some D) {z:Value} (v23:∀w,(zeroValue (ρ.t 23)).run P w=.ok z w) (hzc:z.cells.size=8) (h1z:∀u∈z.cells.toList,u.oneCell'=true)
  {fn:Func} (hf:P.funcs[ρ.f 45]? = some fn) (hname:(fn.name == "runtime.NumGoroutine")=false) (hb:fn.body.isNone=false):Zah P C (ρ.f 45) Zb6:=by
 obtain ⟨i0,hi0⟩:=info_of_underlying hu
 have hz8:i0.size=8:=by
  have h:=z23 default
  have k:=run_typeInfo default hi0
  simpa [Go.sizeOf,k] using h
 refine ⟨rfl,fun d r hF E eP eC ι N w vs args l hinsts hv R new=>?_⟩
 subst eP eC
 obtain ⟨i,j,list⟩:=d
 obtain ⟨hcond,hF⟩:=Za5 hF
 simp only [Bool.and_eq_true,decide_eq_true_eq] at hcond
 obtain ⟨hi0',hij,hjl⟩:=hcond
 obtain ⟨i,rfl⟩:=Int.eq_ofNat_of_zero_le hi0'
 obtain ⟨j,rfl⟩:=Int.eq_ofNat_of_zero_le (Int.le_trans hi0' hij)
 have hij:i≤j:=by omega
 have hjl:j≤list.length:=by omega
 simp only [Int.toNat_natCast] at hF
 obtain rfl:=Option.some.inj hF
 simp only [Zb6,Den.list,Tp.insts,Tp.inst,Dat.av,Prod.mk.injEq] at hinsts
 obtain ⟨rfl,rfl⟩:=hinsts
 obtain ⟨vl⟩:=vs
 dsimp only at hv
 match vl,hv with
 | [v0,v1,v2],hv=>
  simp only [VRL,VR] at hv
  obtain ⟨⟨hι,_⟩,rfl,rfl,_⟩:=hv
  have hob:=R.ob 0 (by simp [Zb6,OT.insts,OT.inst,ZcP])
  simp only [Zb6,OT.insts,OT.inst,ZcP] at hob
  obtain ⟨v',hv',a,cap,rfl,hle,hcase⟩:=hob
  rw [hι] at hv'
  obtain rfl:v0=.slice a list.length cap:=by simpa using hv'
  have fin:∀(newv:Value) (w':World),w'.os=w.os→w'.tape=w.tape→w'.output=w.output→w'.heap.size=w.heap.size→(∀b,N b→w'.heap[b]? = w.heap[b]?)→(∀b,E.keep b→w'.heap[b]? = w.heap[b]?)→
    (∀ι',ObR ι' N E.keep w' newv (.arr EFT (list.take i++list.drop j)))→(∃a n c,newv=.slice a n c)→
    ∃ι' N' v l',Zb6.out.res.inst (fun j=>j) (Den.list Zb6.out.ds (list.take i++list.drop j))=(v,l')∧VR ι' N' w' v newv∧
     Zcv E ι' N' (ZcP (OT.insts (fun j=>j) Zb6.out.hp l')) w'∧(∀i,Zb6.out.hp.length≤i→ι' i=none)∧ZnR E Zb6.keep ι N w ι' N' w':=by
   intro newv w' e1 e2 e3 e4 hN hK hO hsl
   refine ⟨fun k=>if k=0 then some newv else ι k,N,_,_,rfl,?_,?_,fun k hk=>?_,⟨fun k hk=>absurd hk (by simp [Zb6]),fun _ h=>h,hN,fun _ h=>.inl h⟩⟩
   ·simp only [Zb6,Tp.inst,VR]
    exact ⟨rfl,hsl⟩
   ·have hk0:∀k,ZcP (OT.insts (fun j=>j) Zb6.out.hp [⟨.list EFT,list.take i++list.drop j⟩]) k≠.dead→k=0:=fun k hk=>by
     cases k with
     | zero=>rfl
     | succ k=>exact absurd (by cases k<;>simp [Zb6,OT.insts,OT.inst,ZcP]) hk
    refine ⟨fun k hk=>?_,fun k m b e hk hm=>?_,fun b hb=>?_,fun b hb=>?_,?_,fun g hg=>?_⟩
    ·obtain rfl:=hk0 k hk
     refine ⟨newv,by simp,?_⟩
     simp only [Zb6,OT.insts,OT.inst,ZcP]
     exact hO _
    ·exact absurd ((hk0 k hk).trans (hk0 m hm).symm) e
    ·rw [e4];exact R.nlt b hb
    ·rw [e4];exact R.klt b hb
    ·exact ⟨e1.trans R.pres.os,e2.trans R.pres.tape,e3.trans R.pres.output,by rw [e4];exact R.pres.size,fun b hb=>(hK b hb).trans (R.pres.mem b hb)⟩
    ·obtain ⟨n,c,T,fz,hc,hx⟩:=R.glob g hg
     exact ⟨n,c,T,fz,(hN g n).trans hc,hx.mono fun a v ⟨x,y⟩=>⟨VRc.mono (fun _ h=>h) hN x,y⟩⟩
   ·have:k≠0:=by simp only [Zb6,List.length_cons,List.length_nil] at hk;omega
    show (if k=0 then some newv else ι k)=none
    rw [if_neg this]
    exact new k hk
  refine OpR.of_calls hf hname hb ?_
  have hlist:(list.take i++list.drop j).length=i+(list.length-j):=by
   rw [List.length_append,List.length_take,List.length_drop];omega
  rcases Nat.lt_or_ge i j with hlt | hge
  ·rcases hcase with rfl | ⟨b,c,T,rfl,hown,hheap,hsz,hcells⟩
   ·omega
   have h8:ZaR EFT=8:=rfl
   rw [h8] at hsz hcells
   have hclen:(c.toList.take (list.length*8)).length=list.length*8:=by
    have hcs:c.toList.length=c.size:=Array.length_toList
    rw [List.length_take];omega
   have hget:∀(t:Nat) u,(c.toList.take (list.length*8))[t]? = some u→t<list.length*8∧c[t]? = some u:=fun t u hu=>by
    rw [List.getElem?_take] at hu
    split at hu
    ·rename_i ht;exact ⟨ht,by simpa using hu⟩
    ·cases hu
   refine (Zss L z23 i0 hi0 hz8 z v23 hzc h1z b 0 list.length cap i j w (c.toList.take (list.length*8)) hclen ?_ ?_ ?_ hle hlt hjl).mono ?_
   ·intro t u hu
    simp [World.cell?,hheap,(hget t u hu).2]
   ·intro t ht
    simp [World.frozen?,hheap]
   ·intro u hu
    obtain ⟨t,ht,rfl⟩:=List.getElem_of_mem hu
    obtain ⟨ht8,hc⟩:=hget t _ (List.getElem?_eq_getElem ht)
    have hs:t/8<list.length:=by omega
    have hlen:=El.cells_len EFT list[t/8]
    rw [h8] at hlen
    obtain ⟨v,hv,hr⟩:=hcells (t/8) list[t/8] (List.getElem?_eq_getElem hs) (t%8) _ (List.getElem?_eq_getElem (by rw [hlen];omega))
    rw [show t/8*8+t%8=t by omega,hc] at hv
    cases hv
    exact VRc.one hr
   ·rintro e w' ⟨rfl,rfl⟩
    refine ⟨_,rfl,?_⟩
    generalize hZ:(Builtin.zeroCells z.cells (list.length-(i+(list.length-j)))).toList=Z
    have hZl:Z.length=(list.length-(i+(list.length-j)))*8:=by rw [←hZ];simp [Builtin.zeroCells,hzc]
    have hnl:((c.toList.take (list.length*8)).drop (j*8)).length=(list.length-j)*8:=by rw [List.length_drop,hclen];omega
    simp only [Nat.zero_add]
    obtain ⟨c1,g1,g2,g3⟩:=Zho (b:=b) (fz:=(0,0)) ((c.toList.take (list.length*8)).drop (j*8)) (i*8) (w:=w.drew) hheap (by rw [hnl];omega)
    obtain ⟨c2,k1,k2,k3⟩:=Zho (b:=b) (fz:=(0,0)) Z ((i+(list.length-j))*8) g1 (by rw [hZl];omega)
    obtain ⟨p1,p2,p3,p4,p5⟩:=Zhf b ((c.toList.take (list.length*8)).drop (j*8)) (i*8) w.drew
    obtain ⟨q1,q2,q3,q4,q5⟩:=Zhf b Z ((i+(list.length-j))*8) (w.drew.setCells b (i*8) ((c.toList.take (list.length*8)).drop (j*8)))
    have hne:∀b',b'≠b→((w.drew.setCells b (i*8) ((c.toList.take (list.length*8)).drop (j*8))).setCells b ((i+(list.length-j))*8) Z).heap[b']? = w.heap[b']?:=fun b' hb'=>(q5 b' hb').trans ((p5 b' hb').trans rfl)
    have hN:∀b',N b'→((w.drew.setCells b (i*8) ((c.toList.take (list.length*8)).drop (j*8))).setCells b ((i+(list.length-j))*8) Z).heap[b']? = w.heap[b']?:=fun b' hb'=>hne b' (fun e=>hown.1 (e ▸ hb'))
    refine fin _ _ (q1.trans (p1.trans rfl)) (q2.trans (p2.trans rfl)) (q3.trans (p3.trans rfl)) (q4.trans (p4.trans rfl)) hN (fun b' hb'=>hne b' (fun e=>hown.2 (e ▸ hb'))) (fun ι'=>?_) ⟨_,_,_,rfl⟩
    refine ⟨some ⟨b,0,none⟩,cap,by rw [hlist,show list.length-(j-i)=i+(list.length-j) by omega],by rw [hlist];omega,.inr ⟨b,c2,T,rfl,hown,k1,by rw [h8,k2,g2];exact hsz,?_⟩⟩
    rw [h8]
    intro m x hx f av hav
    have hf8:f<8:=by
     have:=(List.getElem?_eq_some_iff.1 hav).1
     rw [El.cells_len,h8] at this;exact this
    have hm:m<i+(list.length-j):=by
     have:=(List.getElem?_eq_some_iff.1 hx).1
     rw [hlist] at this;exact this
    have hc2:c2[m*8+f]? = c1[m*8+f]?:=by rw [k3,if_neg (by omega)]
    rcases Nat.lt_or_ge m i with hmi | hmi
    ·rw [List.getElem?_append_left (by rw [List.length_take];omega),List.getElem?_take,if_pos hmi] at hx
     obtain ⟨v,hv,hr⟩:=hcells m x hx f av hav
     exact ⟨v,by rw [hc2,g3,if_neg (by omega)];exact hv,VRc.mono (fun _ h=>h) hN hr⟩
    ·rw [List.getElem?_append_right (by rw [List.length_take];omega),List.length_take,List.getElem?_drop] at hx
     obtain ⟨v,hv,hr⟩:=hcells _ x hx f av hav
     refine ⟨v,?_,VRc.mono (fun _ h=>h) hN hr⟩
     rw [hc2,g3,if_pos (by rw [hnl];omega),List.getElem?_drop,List.getElem?_take,if_pos (by omega),Array.getElem?_toList,←hv]
     congr 1
     omega
  ·obtain rfl:i=j:=by omega
   refine (Zsr L z23 a list.length cap i w hle hjl (fun e=>?_)).mono ?_
   ·rcases hcase with h | ⟨b,c,T,rfl,_⟩
    ·exact h
    ·cases e
   ·rintro e w' ⟨rfl,rfl⟩
    refine ⟨_,rfl,fin _ w' rfl rfl rfl rfl (fun _ _=>rfl) (fun _ _=>rfl) (fun ι'=>?_) ⟨_,_,_,rfl⟩⟩
    rw [List.take_append_drop]
    exact ⟨a,cap,rfl,hle,hcase⟩
 | [],hv=>simp [VRL] at hv
 | [_],hv=>simp [VRL] at hv
 | [_,_],hv=>simp [VRL] at hv
 | _::_::_::_::_,hv=>simp [VRL] at hv
end Ev
end
section
namespace Ev
open Go Go.Proofs Go.Shelf
theorem ZiV {P:Program} {C:Ctx} {f:Nat} {fn:Func} {S:ZaI} (h:Zah P C f S) (hf:P.funcs[f]? = some fn) (hn:(fn.name == "runtime.NumGoroutine")=false) (hb:fn.body.isNone=false)
  (d:Den S.ids) (r:Den S.out.ds) (hF:S.F d=some r) (E:Env) (eP:E.P=P) (eC:E.C=C) (ι:Nat→Option Value) (N:Nat→Prop) (w:World) (vs:Array Value) (args:List AV) (l:List Dat)
  (hinsts:Tp.insts (fun j=>j) S.args (Den.list S.ids d)=(args,l)) (hv:VRL ι N w args vs.toList) (R:Zcv E ι N (ZcP (OT.insts (fun j=>j) S.ihp l)) w) (new:∀i,S.ihp.length≤i→ι i=none) :
  Calls P f vs w fun e w'=>∃val,e=.returned val∧∃ι' N' v l',S.out.res.inst (fun j=>j) (Den.list S.out.ds r)=(v,l')∧VR ι' N' w' v val∧
   Zcv E ι' N' (ZcP (OT.insts (fun j=>j) S.out.hp l')) w'∧(∀i,S.out.hp.length≤i→ι' i=none)∧ZnR E S.keep ι N w ι' N' w':=by
 have hrun:(callFunc f vs).run P w=.ok (.enter f vs) w:=by
  unfold callFunc
  simp only [Sem.run_bind,run_program,Result.andThen_ok,hf,hn,hb,Bool.false_eq_true,if_false,Sem.run_pure]
 rcases h.2 d r hF E eP eC ι N w vs args l hinsts hv R new with ⟨val,w',h1,_⟩ | ⟨f',args',h1,h2⟩ | ⟨row,args',w',h1,_⟩
 ·rcases h1 with h1 | ⟨h1,_⟩<;>(rw [hrun] at h1;cases h1)
 ·rw [hrun] at h1
  cases h1
  exact h2
 ·rw [hrun] at h1;cases h1
def Zhv (C:Ctx) (N:Nat→Prop) (w:World):Prop:=∀g,C.glob g≠[]→N g∧∃c T fz,w.heap[g]? = some (.cells c T fz)∧ZsO (fun a v=>VRc N w a v∧v.oneCell'=true) c (C.glob g)
theorem Zhv.later {C:Ctx} {N N':Nat→Prop} {w w':World} (h:Zhv C N w) (hN:∀b,N b→N' b) (hm:∀b,N b→w'.heap[b]? = w.heap[b]?):Zhv C N' w':=fun g hg=>by
 obtain ⟨n,c,T,fz,hc,hx⟩:=h g hg
 exact ⟨hN g n,c,T,fz,(hm g n).trans hc,hx.mono fun a v ⟨x,y⟩=>⟨VRc.mono hN hm x,y⟩⟩
theorem Zoz {P:Program} {C:Ctx} {f:Nat} {fn:Func} {sargs:List Tp} {ids:List DT} {F:Den ids→Option Str} (hS:Zah P C f ⟨0,sargs,[],ids,⟨[.str],.sc .str,[]⟩,F⟩)
  (hf:P.funcs[f]? = some fn) (hn:(fn.name == "runtime.NumGoroutine")=false) (hb:fn.body.isNone=false) (d:Den ids) (r:Str) (hF:F d=some r) {N:Nat→Prop} {w:World} (hN:∀b,N b→b<w.heap.size) (hG:Zhv C N w)
  (vs:Array Value) (hv:VRL (fun _=>none) N w (Tp.insts (fun j=>j) sargs (Den.list ids d)).1 vs.toList) :
  Calls P f vs w fun e w'=>e=.returned (.string ⟨r.toArray⟩)∧RowKit.Below w.heap.size w w':=by
 have lt:∀b,Zed w b→b<w.heap.size:=fun b hb=>hb
 have R:Zcv ⟨P,C,w,Zed w⟩ (fun _=>none) N (ZcP []) w:=by
  have dead:∀i,ZcP [] i=.dead:=fun i=>by cases i<;>rfl
  exact ⟨fun i h=>absurd (dead i) h,fun i j b _ h=>absurd (dead i) h,hN,lt,⟨rfl,rfl,rfl,Nat.le_refl _,fun _ _=>rfl⟩,hG⟩
 refine (ZiV hS hf hn hb d r hF ⟨P,C,w,Zed w⟩ rfl rfl (fun _=>none) N w vs _ _ rfl hv R (fun _ _=>rfl)).mono ?_
 rintro e w' ⟨val,rfl,ι',N',v,l',h1,h2,R',_,G⟩
 simp only [Den.list,Tp.inst,Prod.mk.injEq] at h1
 obtain ⟨rfl,rfl⟩:=h1
 simp only [Dat.av,VR] at h2
 subst h2
 exact ⟨rfl,R'.pres.os,R'.pres.tape,R'.pres.output,R'.pres.size,fun k hk=>R'.pres.mem k hk⟩
def ZsP (w:World) (b:Nat) (z:Str):Prop:=∃c T,w.heap[b]? = some (.cells c T (0,0))∧c[0]? = some (.string ⟨z.toArray⟩)
theorem ZsP.lt {w:World} {b:Nat} {z:Str} (h:ZsP w b z):b<w.heap.size:=by
 obtain ⟨c,T,h,_⟩:=h
 exact (Array.getElem?_eq_some_iff.1 h).1
theorem ZzK {P:Program} {C:Ctx} {f:Nat} {fn:Func} {F:Den [.str,.str]→Option (Str×Str)} (hS:Zah P C f ⟨1,[.ptr 0 0,.sc .str],[.box [.sc .str]],[.str,.str],⟨[.str,.str],.sc .str,[.box [.sc .str]]⟩,F⟩)
  (hf:P.funcs[f]? = some fn) (hn:(fn.name == "runtime.NumGoroutine")=false) (hb:fn.body.isNone=false) {s z o z':Str} (hF:F (s,z)=some (o,z')) {N:Nat→Prop} {w:World} {zb:Nat} (hN:∀b,N b→b<w.heap.size) (hG:Zhv C N w) (hnz:¬N zb) (hz:ZsP w zb z) :
  Calls P f #[.pointer (some ⟨zb,0,none⟩),.string ⟨s.toArray⟩] w fun e w'=>e=.returned (.string ⟨o.toArray⟩)∧ZsP w' zb z'∧(∀b,b<w.heap.size→b≠zb→w'.heap[b]? = w.heap[b]?)∧w.heap.size≤w'.heap.size∧w'.os=w.os∧w'.tape=w.tape∧w'.output=w.output:=by
 obtain ⟨c,T,hheap,hc⟩:=hz
 have own1:own (fun b=>b<w.heap.size∧b≠zb) (fun b=>b<w.heap.size∧b≠zb) zb:=⟨fun h=>h.2 rfl,fun h=>h.2 rfl⟩
 have hG1:Zhv C (fun b=>b<w.heap.size∧b≠zb) w:=hG.later (fun b hb=>⟨hN b hb,fun e=>hnz (e ▸ hb)⟩) (fun _ _=>rfl)
 have R:Zcv ⟨P,C,w,fun b=>b<w.heap.size∧b≠zb⟩ (fun i=>if i=0 then some (.pointer (some ⟨zb,0,none⟩)) else none) (fun b=>b<w.heap.size∧b≠zb) (ZcP [.box [.str z]]) w:=by
  have dead:∀i,i≠0→ZcP [Ob.box [.str z]] i=.dead:=fun i hi=>by
   cases i with
   | zero=>exact absurd rfl hi
   | succ i=>cases i<;>rfl
  refine ⟨fun i hi=>?_,fun i j b e hi hj=>?_,fun b hb=>hb.1,fun b hb=>hb.1,⟨rfl,rfl,rfl,Nat.le_refl _,fun _ _=>rfl⟩,hG1⟩
  ·have h0:i=0:=by
    rcases Nat.eq_zero_or_pos i with q | q
    ·exact q
    ·exact absurd (dead i (by omega)) hi
   subst h0
   refine ⟨_,rfl,zb,0,c,T,rfl,own1,hheap,fun k a ha=>?_⟩
   cases k with
   | zero=>
    have:a=.str z:=by simpa using ha.symm
    subst this
    exact ⟨_,hc,by simp only [VR],rfl⟩
   | succ k=>simp at ha
  ·exfalso
   have h0:i=0:=by
    rcases Nat.eq_zero_or_pos i with q | q
    ·exact q
    ·exact absurd (dead i (by omega)) hi
   have h1:j=0:=by
    rcases Nat.eq_zero_or_pos j with q | q
    ·exact q
    ·exact absurd (dead j (by omega)) hj
   exact e (h0.trans h1.symm)
 have hv:VRL (fun i=>if i=0 then some (.pointer (some ⟨zb,0,none⟩)) else none) (fun b=>b<w.heap.size∧b≠zb) w [.ptr 0 0,.str s] (#[.pointer (some ⟨zb,0,none⟩),.string ⟨s.toArray⟩]:Array Value).toList:=by
  simp only [VRL,VR]
  exact ⟨⟨zb,0,rfl,rfl⟩,trivial,trivial⟩
 refine (ZiV hS hf hn hb (s,z) (o,z') hF ⟨P,C,w,fun b=>b<w.heap.size∧b≠zb⟩ rfl rfl _ _ w _ _ _ rfl hv R (fun i hi=>if_neg (by simp at hi;omega))).mono ?_
 rintro e w' ⟨val,rfl,ι',N',v,l',h1,h2,R',_,G⟩
 simp only [Den.list,Tp.inst,Prod.mk.injEq] at h1
 obtain ⟨rfl,rfl⟩:=h1
 simp only [Dat.av,VR] at h2
 subst h2
 obtain ⟨u,hu,b,o',c',T',rfl,_,hh,hcs⟩:=R'.ob 0 (by simp [OT.insts,OT.inst,ZcP])
 have hι:ι' 0=some (.pointer (some ⟨zb,0,none⟩)):=(G.loc 0 (by simp)).trans (if_pos rfl)
 rw [hu] at hι
 simp only [Option.some.injEq,Value.pointer.injEq,Addr.mk.injEq,and_true] at hι
 obtain ⟨rfl,rfl⟩:=hι
 obtain ⟨x,hx,hvx,_⟩:=hcs 0 (.str z') (by simp [Tp.insts,Tp.inst,Dat.av])
 simp only [VR] at hvx
 subst hvx
 exact ⟨rfl,⟨c',T',hh,by simpa using hx⟩,fun b hb hne=>R'.pres.mem b ⟨hb,hne⟩,R'.pres.size,R'.pres.os,R'.pres.tape,R'.pres.output⟩
theorem Zqr {T e:TypeId} {B b:Nat} {bs:List Value} {w w':World} (h:Lib.IsBuilder T e B b bs w) (hm:∀k,B≤k→k<w.heap.size→w'.heap[k]? = w.heap[k]?):Lib.IsBuilder T e B b bs w':=by
 have lt:∀{k:Nat} {x:Obj},w.heap[k]? = some x→k<w.heap.size:=fun {k x} q=>(Array.getElem?_eq_some_iff.1 q).1
 have one:∀p,Lib.BuilderAt T e B b p bs w→Lib.BuilderAt T e B b p bs w':=by
  rintro p ⟨hB,v,hb,⟨hlen,hown⟩,hne⟩
  refine ⟨hB,v,(hm b hB (lt hb)).trans hb,⟨hlen,?_⟩,hne⟩
  rcases hown with q | ⟨g,cap,cur,hv,hg,hh,r⟩
  ·exact .inl q
  ·exact .inr ⟨g,cap,cur,hv,hg,(hm g hg (lt hh)).trans hh,r⟩
 exact h.elim (fun q=>.inl (one _ q)) (fun q=>.inr (one _ q))
theorem ZsP.later {w w':World} {b:Nat} {z:Str} (h:ZsP w b z) (hm:w'.heap[b]? = w.heap[b]?):ZsP w' b z:=by
 obtain ⟨c,T,h1,h2⟩:=h
 exact ⟨c,T,hm.trans h1,h2⟩
end Ev
end

/- Library functions by the kit's own contracts. Conditions: as stated. -/
import Derived.Shelf.Strings.OnBuilder
import Derived.Lib.ItoaNum
import Derived.Shelf.LaysM
import Derived.Shelf.Strconv.Itoa3
import Derived.Shelf.SlGeneric
import Derived.Ground.SlsfProg
import Derived.Shelf.SlLaysF0
import Derived.Test.YtiphcamiidggcaaGreatDoorProg
import Derived.Shelf.SlLaysE0
import Derived.Shelf.SlicesE.Kit
import Derived.Shelf.RegionOpenPlain
import Derived.WalkKit
import Derived.Deep.LoopGhost
import Derived.Deep.RegionLaw
import Derived.Deep.Upon
import Derived.Deep.MidRow
import Derived.Lib.Walk
import Derived.Sort.WalkB12
import Derived.Lib.SliceRun
import Derived.Lib.SlicesDelete
import Derived.Test.YtiphcamiidggcaaGreatDoorXGA2
set_option linter.unusedVariables false
set_option linter.unusedSimpArgs false
section
namespace Ev
open Go Go.Proofs Go.Shelf
theorem ZsF {P:Program} {C:Ctx} {f:Nat} {fn:Func} {sargs:List Tp} {ids ods:List DT} {res:Tp} {F:Den ids→Option (Den ods)} (hf:P.funcs[f]? = some fn) (hname:(fn.name == "runtime.NumGoroutine")=false) (hb:fn.body.isNone=false)
  (hwf:(ZaI.mk 0 sargs [] ids ⟨ods,res,[]⟩ F).wf=true)
  (h:∀(d:Den ids) (r:Den ods),F d=some r→∀(ι:Nat→Option Value) (N:Nat→Prop) (w:World) (vs:Array Value),(∀b,N b→b<w.heap.size)→VRL ι N w (Tp.insts (fun j=>j) sargs (Den.list ids d)).1 vs.toList→
   Calls P f vs w fun e w'=>∃val,e=.returned val∧RowKit.Below w.heap.size w w'∧VR ι N w' (res.inst (fun j=>j) (Den.list ods r)).1 val):Zah P C f ⟨0,sargs,[],ids,⟨ods,res,[]⟩,F⟩:=by
 refine ⟨hwf,fun d r hF E eP eC ι N w vs args l hinsts hv R new=>?_⟩
 subst eP eC
 refine OpR.of_calls hf hname hb ((h d r hF ι N w vs R.nlt (by rw [hinsts];exact hv)).mono ?_)
 rintro e w' ⟨val,rfl,bel,hr⟩
 have mem:∀b,b<w.heap.size→w'.heap[b]? = w.heap[b]?:=bel.block
 refine ⟨val,rfl,ι,N,_,_,rfl,hr,?_,fun i _=>new i (Nat.zero_le _),⟨fun i hi=>absurd hi (by simp),fun _ h=>h,fun b hb=>mem b (R.nlt b hb),fun _ h=>.inl h⟩⟩
 refine ⟨fun i hi=>?_,fun i j b e hi=>?_,fun b hb=>Nat.lt_of_lt_of_le (R.nlt b hb) bel.size,fun b hb=>Nat.lt_of_lt_of_le (R.klt b hb) bel.size,?_,fun g hg=>?_⟩
 ·cases i<;>simp [OT.insts,Zdh] at hi
 ·cases i<;>simp [OT.insts,Zdh] at hi
 ·exact ⟨bel.os.trans R.pres.os,bel.tape.trans R.pres.tape,bel.output.trans R.pres.output,Nat.le_trans R.pres.size bel.size,fun k hk=>(mem k (R.klt k hk)).trans (R.pres.mem k hk)⟩
 ·obtain ⟨n,c,T,fz,hc,hx⟩:=R.glob g hg
  exact ⟨n,c,T,fz,(mem g (R.nlt g n)).trans hc,hx.mono fun a v ⟨x,y⟩=>⟨VRc.mono (fun _ h=>h) (fun b hb=>mem b (R.nlt b hb)) x,y⟩⟩
def Zs1 (xs:List Str) (sep:Str):Str:=sep.intercalate xs
def Zt5:ZaI:=⟨0,[.sc (.list [.str]),.sc .str],[],[.list [.str],.str],⟨[.str],.sc .str,[]⟩,fun (xs,sep)=>need (fits xs.length&&fits (Zs1 xs sep).length) (some (Zs1 xs sep))⟩
theorem Zvf {P:Program} {C:Ctx} {ρ:Ren} (L:Lays.n156 P ρ) (X:Builder.Extra P ρ) {fn:Func} (hf:P.funcs[ρ.f 156]? = some fn) (hname:(fn.name == "runtime.NumGoroutine")=false) (hb:fn.body.isNone=false):Zah P C (ρ.f 156) Zt5:=by
 refine ZsF hf hname hb rfl fun d r hF ι N w vs hN hv=>?_
 obtain ⟨xs,sep⟩:=d
 obtain ⟨hfit,hF⟩:=Zbf hF
 cases hF
 simp only [Bool.and_eq_true] at hfit
 have h1:=ZkL hfit.1
 have h2:=ZkL hfit.2
 have hLIM:LIM=1099511627776:=rfl
 simp only [Den.list,Tp.insts,Tp.inst,Dat.av] at hv
 obtain ⟨l⟩:=vs
 dsimp only at hv
 match l,hv with
 | [a,b],hv=>
  simp only [VRL,VR] at hv
  obtain ⟨⟨ad,cap,rfl,hx⟩,rfl,_⟩:=hv
  rcases hx with rfl | ⟨b,o,⟨rfl,hcap⟩,hNb,c,T,fz,hheap,hcells⟩
  ·refine (Any.strings_Join_none L X ad cap ⟨sep.toArray⟩ w).mono ?_
   rintro e w' ⟨rfl,rfl⟩
   exact ⟨_,rfl,.refl _ _,by simp only [Den.list,Tp.inst,Dat.av,VR];rfl⟩
  ·have hmap:(xs.map fun s=>(⟨s.toArray⟩:ByteArray)).map (·.data.toList)=xs:=by simp [List.map_map,Function.comp_def]
   have key:=Any.strings_Join L X b o cap (xs.map fun s=>(⟨s.toArray⟩:ByteArray)) ⟨sep.toArray⟩ w (fun j x hj=>by
    rw [List.getElem?_map] at hj
    cases hxj:xs[j]? with
    | none=>rw [hxj] at hj;cases hj
    | some y=>
     rw [hxj] at hj
     simp only [Option.map_some,Option.some.injEq] at hj
     subst hj
     obtain ⟨v,e1,e2⟩:=hcells j y hxj 0 (.str y) rfl
     simp only [VRc,VRs] at e2
     subst e2
     simp only [ZaS,Nat.mul_one,Nat.add_zero,Nat.zero_add] at e1
     simp [World.cell?,hheap,e1]) (hN b hNb) (by simp;omega) (by simpa using hcap) (by rw [hmap];show (Zs1 xs sep).length≤_;omega)
   rw [List.length_map] at key
   refine key.mono ?_
   rintro e w' ⟨rfl,bel⟩
   refine ⟨_,rfl,bel,?_⟩
   rw [hmap]
   simp only [Den.list,Tp.inst,Dat.av,VR]
   rfl
 | [],hv=>simp [VRL] at hv
 | [_],hv=>simp [VRL] at hv
 | _::_::_::_,hv=>simp [VRL] at hv
end Ev
end
section
namespace Ev
open Go Go.Proofs Go.Shelf
abbrev EFT:FT:=[.str,.int .i64,.int .i64,.int .i64,.int .i64,.int .i64,.int .i64,.str]
def Zch:ZaI:=⟨0,[.full 0,.sc (.int .i64),.sc (.int .i64)],[.arr EFT],[.int .i64,.int .i64,.list EFT],⟨[.list EFT],.full 0,[.arr EFT]⟩,
 fun ((i,j,list):Int×Int×List (El EFT))=>need (decide (0≤i)&&(decide (i≤j)&&decide (j≤list.length))) (some (list.take i.toNat++list.drop j.toNat))⟩
end Ev
end
section
namespace Go.Proofs
open Go.Shelf
def Tryz.lays156_ren:Go.Shelf.Ren:=⟨fun | 156=>81 | 165=>134 | 166=>135 | 169=>136 | 240=>180 | 241=>181 | 276=>211 | 277=>212 | n=>n,fun | 31=>52 | 9=>9 | 3=>3 | 4=>4 | 0=>0 | 20=>20 | 72=>141 | 76=>145 | 70=>139 | 37=>31 | 75=>144 | 127=>177 | 164=>210 | 5=>5 | 80=>147 | n=>n,fun | n=>n⟩
theorem Tryz.lays156:Go.Proofs.Lays.n156 Tryz.prog Tryz.lays156_ren:={
 mixed:=by kernel_rfl
 f156:=Tryz.func81.trans (congrArg some (by kernel_rfl))
 f165:=Tryz.func134.trans (congrArg some (by kernel_rfl))
 f166:=Tryz.func135.trans (congrArg some (by kernel_rfl))
 f169:=Tryz.func136.trans (congrArg some (by kernel_rfl))
 f240:=Tryz.func180.trans (congrArg some (by kernel_rfl))
 f241:=Tryz.func181.trans (congrArg some (by kernel_rfl))
 f276:=Tryz.func211.trans (congrArg some (by kernel_rfl))
 f277:=Tryz.func212.trans (congrArg some (by kernel_rfl))
 t0:=Tryz.underlying0
 a0:=Tryz.isAgg0
 z0:=Tryz.sizeOf0
 v0:=Tryz.zeroValue0
 t3:=Tryz.underlying3
 a3:=Tryz.isAgg3
 z3:=Tryz.sizeOf3
 v3:=Tryz.zeroValue3
 t4:=Tryz.underlying4
 a4:=Tryz.isAgg4
 z4:=Tryz.sizeOf4
 v4:=Tryz.zeroValue4
 t9:=Tryz.underlying9
 a9:=Tryz.isAgg9
 z9:=Tryz.sizeOf9
 v9:=Tryz.zeroValue9
 t20:=Tryz.underlying20
 a20:=Tryz.isAgg20
 z20:=Tryz.sizeOf20
 v20:=Tryz.zeroValue20
 t31:=Tryz.underlying52
 a31:=Tryz.isAgg52
 z31:=Tryz.sizeOf52
 v31:=Tryz.zeroValue52
 t37:=Tryz.underlying31
 a37:=Tryz.isAgg31
 z37:=Tryz.sizeOf31
 v37:=Tryz.zeroValue31
 t70:=Tryz.underlying139
 a70:=Tryz.isAgg139
 z70:=Tryz.sizeOf139
 v70:=Tryz.zeroValue139
 t72:=Tryz.underlying141
 a72:=Tryz.isAgg141
 z72:=Tryz.sizeOf141
 v72:=Tryz.zeroValue141
 t75:=Tryz.underlying144
 a75:=Tryz.isAgg144
 z75:=Tryz.sizeOf144
 v75:=Tryz.zeroValue144
 t76:=Tryz.underlying145
 a76:=Tryz.isAgg145
 z76:=Tryz.sizeOf145
 v76:=Tryz.zeroValue145
 t127:=Tryz.underlying177
 a127:=Tryz.isAgg177
 z127:=Tryz.sizeOf177
 v127:=Tryz.zeroValue177
 t164:=Tryz.underlying210
 a164:=Tryz.isAgg210
 z164:=Tryz.sizeOf210
 v164:=Tryz.zeroValue210 }
theorem Tryz.Builder_Extra_156:Builder.Extra Tryz.prog Tryz.lays156_ren:={
 sizeBuilder:=by kernel_rfl
 liesBuilder:=by kernel_rfl
 t5:=Tryz.underlying5
 a5:=Tryz.isAgg5
 z5:=Tryz.sizeOf5
 v5:=Tryz.zeroValue5
 infoByte:=by kernel_rfl
 cellsByte:=by kernel_rfl
 sizeByte:=by kernel_rfl
 neB5:=by decide }
end Go.Proofs
end
section
namespace Go.Proofs
open Go.Shelf Go.RowKit Go.Lib Go.Sort
variable {P:Program} {ρ:Ren}
theorem ZuI (w:World) (t e ty:TypeId) (z:Value) (ht:P.underlying t=some (.slice e)) (hv:∀w,(zeroValue e).run P w=.ok z w) (hz8:z.cells.size=8) (h1:∀u∈z.cells.toList,u.oneCell'=true) (b o n c:Nat) (hn:0<n)
  (hc:∀j,j<n*8→(w.cell? ⟨b,o+j,none⟩).isSome=true) (hf:∀j,j<n*8→w.frozen? ⟨b,o+j,none⟩=false) :
  (Builtin.clear_ #[t] ty #[.slice (some ⟨b,o,none⟩) n c]).run P w=.ok (.tuple #[]) (w.setCells b o (Builtin.zeroCells z.cells n).toList):=by
 have hl:(Builtin.zeroCells z.cells n).toList.length=n*8:=by simp [Builtin.zeroCells,hz8]
 have hst:=run_storeCells_cells (P:=P) b o (Builtin.zeroCells z.cells n).toList 0 w (by rw [hl];simpa using hc) (by rw [hl];simpa using hf) (by
  intro v hv'
  simp only [Builtin.zeroCells,Array.toList_map,List.mem_map] at hv'
  obtain ⟨i,_,rfl⟩:=hv'
  refine h1 _ ?_
  have:i%z.cells.size<z.cells.size:=Nat.mod_lt _ (by omega)
  rw [getElem!_pos z.cells _ this]
  exact Array.getElem_mem_toList this)
 simp only [Nat.add_zero] at hst
 obtain ⟨m,rfl⟩:∃m,n=m+1:=⟨n-1,by omega⟩
 simp [Builtin.clear_,run_underlying ht,hv,hst]
set_option maxHeartbeats 4000000 in
set_option maxRecDepth 1000000 in
theorem Zr5 (L:SlLaysE0.n45 P ρ) (z23:∀w,(Go.sizeOf (ρ.t 23)).run P w=.ok 8 w) (a:Option Addr) (n cap i:Nat) (w:World) (hcap:n≤cap) (hi:i≤n) (hn:a=none→cap=0) :
  Calls P (ρ.f 45) #[.slice a n cap,.int .i64 i,.int .i64 i] w fun e w'=>e=.returned (.slice a n cap)∧w'=w:=by
 have mixed:=L.mixed;have t0:=L.t0;have a0:=L.a0;have z0:=L.z0;have v0:=L.v0;have t3:=L.t3;have a3:=L.a3;have z3:=L.z3;have v3:=L.v3;have t4:=L.t4;have a4:=L.a4;have z4:=L.z4;have v4:=L.v4;have t22:=L.t22;have a22:=L.a22;have z22:=L.z22;have v22:=L.v22
 rcases a with _ | ad
 ·have h0:=hn rfl
  subst h0
  obtain rfl:n=0:=by omega
  obtain rfl:i=0:=by omega
  obtain ⟨_,_,FG⟩:=L.f45
  go_enter FG,SlBodyN.n45_ntmps ρ
  go_wp2
  all_goals (go_ret;exact ⟨rfl,rfl⟩)
 ·obtain ⟨_,_,FG⟩:=L.f45
  go_enter FG,SlBodyN.n45_ntmps ρ
  go_wp2
  all_goals (go_ret;exact ⟨rfl,rfl⟩)
set_option maxHeartbeats 4000000 in
set_option maxRecDepth 1000000 in
theorem Zr6 (L:SlLaysE0.n45 P ρ) (z23:∀w,(Go.sizeOf (ρ.t 23)).run P w=.ok 8 w) (i0:TypeInfo) (hi0:P.info? (ρ.t 23)=some i0) (hz8:i0.size=8) (z:Value) (v23:∀w,(zeroValue (ρ.t 23)).run P w=.ok z w) (hzc:z.cells.size=8) (h1z:∀u∈z.cells.toList,u.oneCell'=true)
  (blk off n cap i j:Nat) (w:World) (cs:List Value) (hl:cs.length=n*8) (hc:∀t u,cs[t]? = some u→w.cell? ⟨blk,off+t,none⟩=some u) (hf:∀t,t<n*8→w.frozen? ⟨blk,off+t,none⟩=false) (h1:∀u∈cs,u.oneCell'=true)
  (hcap:n≤cap) (hlt:i<j) (hj:j≤n) :
  Calls P (ρ.f 45) #[.slice (some ⟨blk,off,none⟩) n cap,.int .i64 i,.int .i64 j] w fun e w'=>e=.returned (.slice (some ⟨blk,off,none⟩) (n-(j-i)) cap)∧
   w'=(w.drew.setCells blk (off+i*8) (cs.drop (j*8))).setCells blk (off+(i+(n-j))*8) (Builtin.zeroCells z.cells (n-(i+(n-j)))).toList:=by
 have mixed:=L.mixed;have t0:=L.t0;have a0:=L.a0;have z0:=L.z0;have v0:=L.v0;have t3:=L.t3;have a3:=L.a3;have z3:=L.z3;have v3:=L.v3;have t4:=L.t4;have a4:=L.a4;have z4:=L.z4;have v4:=L.v4;have t22:=L.t22;have a22:=L.a22;have z22:=L.z22;have v22:=L.v22
 have hsome:∀t,t<n*8→(w.cell? ⟨blk,off+t,none⟩).isSome=true:=fun t ht=>by
  rw [hc t cs[t] (List.getElem?_eq_getElem (by omega))];rfl
 obtain ⟨news,hnews⟩:∃news,news=cs.drop (j*8):=⟨_,rfl⟩
 have hlen:news.length=(n-j)*8:=by rw [hnews,List.length_drop];omega
 obtain ⟨A,hA,hsrc⟩:∃A:Addr,(if cap=j then some (⟨blk,off,none⟩:Addr) else some ⟨blk,off+j*8,none⟩)=some A∧Hid (∀t u,news[t]? = some u→w.drew.cell? (A.add t)=some u):=by
  by_cases h:cap=j
  ·refine ⟨⟨blk,off,none⟩,by simp [h],fun t u hu=>?_⟩
   have h0:news.length=0:=by rw [hlen];omega
   rw [List.length_eq_zero_iff.1 h0] at hu
   simp at hu
  ·refine ⟨⟨blk,off+j*8,none⟩,by simp [h],fun t u hu=>?_⟩
   rw [hnews,List.getElem?_drop] at hu
   rw [Addr.add_lit,show off+j*8+t=off+(j*8+t) by omega]
   exact hc _ _ hu
 have s1:Hid (news.length=(n-j)*8):=hlen
 have s2:Hid (∀u∈news,u.oneCell'=true):=by
  intro u hu
  rw [hnews] at hu
  exact h1 u (List.mem_of_mem_drop hu)
 have s3:Hid (∀t,t<news.length→(w.drew.cell? ⟨blk,off+i*8+t,none⟩).isSome=true∧w.drew.frozen? ⟨blk,off+i*8+t,none⟩=false):=by
  intro t ht
  rw [hlen] at ht
  rw [Nat.add_assoc]
  exact ⟨hsome _ (by omega),hf _ (by omega)⟩
 obtain ⟨W1,hW1⟩:∃W1,W1=w.drew.setCells blk (off+i*8) news:=⟨_,rfl⟩
 have hcl:∀ty,(Builtin.clear_ #[ρ.t 22] ty #[.slice (some ⟨blk,off+(i+(n-j))*8,none⟩) (n-(i+(n-j))) (cap-(i+(n-j)))]).run P W1=.ok (.tuple #[]) (W1.setCells blk (off+(i+(n-j))*8) (Builtin.zeroCells z.cells (n-(i+(n-j)))).toList):=
  fun ty=>ZuI W1 _ _ ty _ t22 v23 hzc h1z blk _ _ _ (by omega) (fun t ht=>by
   rw [hW1]
   exact World.isSome_setCells blk _ _ _ _ (by rw [Nat.add_assoc];exact hsome _ (by omega))) (fun t ht=>by
   rw [hW1,World.frozen?_setCells,Nat.add_assoc]
   exact hf _ (by omega))
 obtain ⟨Z,hZ⟩:∃Z,Z=(Builtin.zeroCells z.cells (n-(i+(n-j)))).toList:=⟨_,rfl⟩
 rw [←hZ] at hcl ⊢
 have hW:Hid (W1=w.drew.setCells blk (off+i*8) news):=hW1
 have X:Aside (W1=w.drew.setCells blk (off+i*8) (cs.drop (j*8))):=by rw [hW1,hnews];rfl
 have hic:i≤cap:=by omega
 have hjc:j≤cap:=by omega
 have hij:i≤j:=by omega
 have hne:¬i=j:=by omega
 clear hW1 hc hf h1 hnews hlen hsome hZ v23 hzc h1z
 obtain ⟨_,_,FG⟩:=L.f45
 go_enter FG,SlBodyN.n45_ntmps ρ
 go_wp2_with fail
 go_region_law_o (refine step_append_room rfl (.tmp 22) (.tmp 25) (ρ.t 22) rfl (ρ.t 23) i0 8 t22 hi0 hz8 blk off i cap (by simp [Act.eval,Act.put]) A (n-j) (cap-j) news (by simp [Act.eval,Act.put]) s1.out hsrc.out s2.out (by omega) s3.out ?_;rw [←hW.out])
 go_wp2
 go_ret
 refine ⟨by rw [show n-(j-i)=i+(n-j) by omega];rfl,?_⟩
 rw [←X.out]
end Go.Proofs
end
section
namespace Ev
open Go Go.Proofs Go.Shelf
theorem Zhq {b:Nat} {T:TypeId} {fz:Nat×Nat}:∀(vs:List Value) (o:Nat) {w:World} {c:Array Value},w.heap[b]? = some (.cells c T fz)→o+vs.length≤c.size→
  ∃c',(w.setCells b o vs).heap[b]? = some (.cells c' T fz)∧c'.size=c.size∧∀p,c'[p]? = if o≤p∧p<o+vs.length then vs[p-o]? else c[p]?
 | [],o,w,c,h,_=>⟨c,h,rfl,fun p=>by rw [if_neg (by simp)]⟩
 | v::r,o,w,c,h,hl=>by
  rw [List.length_cons] at hl
  have h1:(w.setCell ⟨b,o,none⟩ v).heap[b]? = some (.cells (c.setIfInBounds o v) T fz):=by
   obtain ⟨hb,he⟩:=Array.getElem?_eq_some_iff.1 h
   simp [World.setCell,Array.getElem?_modify,h]
  obtain ⟨c',g1,g2,g3⟩:=Zhq r (o+1) h1 (by simp;omega)
  refine ⟨c',g1,by simpa using g2,fun p=>?_⟩
  rw [g3 p,List.length_cons]
  by_cases e:p=o
  ·subst e
   rw [if_neg (by omega),if_pos (by omega),Nat.sub_self]
   rw [Array.getElem?_setIfInBounds_self_of_lt (by omega)];rfl
  ·by_cases q:o+1≤p∧p<o+1+r.length
   ·rw [if_pos q,if_pos (by omega),show p-o=p-(o+1)+1 by omega,List.getElem?_cons_succ]
   ·rw [if_neg q,if_neg (by omega)]
    simp [Array.getElem?_setIfInBounds,Ne.symm e]
theorem Zhi (b:Nat):∀(vs:List Value) (o:Nat) (w:World),(w.setCells b o vs).os=w.os∧(w.setCells b o vs).tape=w.tape∧(w.setCells b o vs).output=w.output∧(w.setCells b o vs).heap.size=w.heap.size∧∀i,i≠b→(w.setCells b o vs).heap[i]? = w.heap[i]?
 | [],o,w=>⟨rfl,rfl,rfl,rfl,fun _ _=>rfl⟩
 | v::r,o,w=>by
  obtain ⟨h1,h2,h3,h4,h5⟩:=Zhi b r (o+1) (w.setCell ⟨b,o,none⟩ v)
  refine ⟨h1.trans rfl,h2.trans rfl,h3.trans rfl,h4.trans (by simp [World.setCell]),fun i hi=>(h5 i hi).trans ?_⟩
  simp [World.setCell,Array.getElem?_modify,Ne.symm hi]
theorem Zr4 {P:Program} {C:Ctx} {ρ:Ren} (L:SlLaysE0.n45 P ρ) (z23:∀w,(Go.sizeOf (ρ.t 23)).run P w=.ok 8 w) {D:TypeDesc} (hu:P.underlying (ρ.t 23)=some D) {z:Value} (v23:∀w,(zeroValue (ρ.t 23)).run P w=.ok z w) (hzc:z.cells.size=8) (h1z:∀u∈z.cells.toList,u.oneCell'=true)
  {fn:Func} (hf:P.funcs[ρ.f 45]? = some fn) (hname:(fn.name == "runtime.NumGoroutine")=false) (hb:fn.body.isNone=false):Zah P C (ρ.f 45) Zch:=by
 obtain ⟨i0,hi0⟩:=info_of_underlying hu
 have hz8:i0.size=8:=by
  have h:=z23 default
  have k:=run_typeInfo default hi0
  simpa [Go.sizeOf,k] using h
 refine ⟨rfl,fun d r hF E eP eC ι N w vs args l hinsts hv R new=>?_⟩
 subst eP eC
 obtain ⟨i,j,list⟩:=d
 obtain ⟨hcond,hF⟩:=Zbf hF
 simp only [Bool.and_eq_true,decide_eq_true_eq] at hcond
 obtain ⟨hi0',hij,hjl⟩:=hcond
 obtain ⟨i,rfl⟩:=Int.eq_ofNat_of_zero_le hi0'
 obtain ⟨j,rfl⟩:=Int.eq_ofNat_of_zero_le (Int.le_trans hi0' hij)
 have hij:i≤j:=by omega
 have hjl:j≤list.length:=by omega
 simp only [Int.toNat_natCast] at hF
 obtain rfl:=Option.some.inj hF
 simp only [Zch,Den.list,Tp.insts,Tp.inst,Dat.av,Prod.mk.injEq] at hinsts
 obtain ⟨rfl,rfl⟩:=hinsts
 obtain ⟨vl⟩:=vs
 dsimp only at hv
 match vl,hv with
 | [v0,v1,v2],hv=>
  simp only [VRL,VR] at hv
  obtain ⟨⟨hι,_⟩,rfl,rfl,_⟩:=hv
  have hob:=R.ob 0 (by simp [Zch,OT.insts,OT.inst,Zdh])
  simp only [Zch,OT.insts,OT.inst,Zdh] at hob
  obtain ⟨v',hv',a,cap,rfl,hle,hcase⟩:=hob
  rw [hι] at hv'
  obtain rfl:v0=.slice a list.length cap:=by simpa using hv'
  have fin:∀(newv:Value) (w':World),w'.os=w.os→w'.tape=w.tape→w'.output=w.output→w'.heap.size=w.heap.size→(∀b,N b→w'.heap[b]? = w.heap[b]?)→(∀b,E.keep b→w'.heap[b]? = w.heap[b]?)→
    (∀ι',ObR ι' N E.keep w' newv (.arr EFT (list.take i++list.drop j)))→(∃a n c,newv=.slice a n c)→
    ∃ι' N' v l',Zch.out.res.inst (fun j=>j) (Den.list Zch.out.ds (list.take i++list.drop j))=(v,l')∧VR ι' N' w' v newv∧
     ZcK E ι' N' (Zdh (OT.insts (fun j=>j) Zch.out.hp l')) w'∧(∀i,Zch.out.hp.length≤i→ι' i=none)∧Zn0 E Zch.keep ι N w ι' N' w':=by
   intro newv w' e1 e2 e3 e4 hN hK hO hsl
   refine ⟨fun k=>if k=0 then some newv else ι k,N,_,_,rfl,?_,?_,fun k hk=>?_,⟨fun k hk=>absurd hk (by simp [Zch]),fun _ h=>h,hN,fun _ h=>.inl h⟩⟩
   ·simp only [Zch,Tp.inst,VR]
    exact ⟨rfl,hsl⟩
   ·have hk0:∀k,Zdh (OT.insts (fun j=>j) Zch.out.hp [⟨.list EFT,list.take i++list.drop j⟩]) k≠.dead→k=0:=fun k hk=>by
     cases k with
     | zero=>rfl
     | succ k=>exact absurd (by cases k<;>simp [Zch,OT.insts,OT.inst,Zdh]) hk
    refine ⟨fun k hk=>?_,fun k m b e hk hm=>?_,fun b hb=>?_,fun b hb=>?_,?_,fun g hg=>?_⟩
    ·obtain rfl:=hk0 k hk
     refine ⟨newv,by simp,?_⟩
     simp only [Zch,OT.insts,OT.inst,Zdh]
     exact hO _
    ·exact absurd ((hk0 k hk).trans (hk0 m hm).symm) e
    ·rw [e4];exact R.nlt b hb
    ·rw [e4];exact R.klt b hb
    ·exact ⟨e1.trans R.pres.os,e2.trans R.pres.tape,e3.trans R.pres.output,by rw [e4];exact R.pres.size,fun b hb=>(hK b hb).trans (R.pres.mem b hb)⟩
    ·obtain ⟨n,c,T,fz,hc,hx⟩:=R.glob g hg
     exact ⟨n,c,T,fz,(hN g n).trans hc,hx.mono fun a v ⟨x,y⟩=>⟨VRc.mono (fun _ h=>h) hN x,y⟩⟩
   ·have:k≠0:=by simp only [Zch,List.length_cons,List.length_nil] at hk;omega
    show (if k=0 then some newv else ι k)=none
    rw [if_neg this]
    exact new k hk
  refine OpR.of_calls hf hname hb ?_
  have hlist:(list.take i++list.drop j).length=i+(list.length-j):=by
   rw [List.length_append,List.length_take,List.length_drop];omega
  rcases Nat.lt_or_ge i j with hlt | hge
  ·rcases hcase with rfl | ⟨b,c,T,rfl,hown,hheap,hsz,hcells⟩
   ·omega
   have h8:ZaS EFT=8:=rfl
   rw [h8] at hsz hcells
   have hclen:(c.toList.take (list.length*8)).length=list.length*8:=by
    have hcs:c.toList.length=c.size:=Array.length_toList
    rw [List.length_take];omega
   have hget:∀(t:Nat) u,(c.toList.take (list.length*8))[t]? = some u→t<list.length*8∧c[t]? = some u:=fun t u hu=>by
    rw [List.getElem?_take] at hu
    split at hu
    ·rename_i ht;exact ⟨ht,by simpa using hu⟩
    ·cases hu
   refine (Zr6 L z23 i0 hi0 hz8 z v23 hzc h1z b 0 list.length cap i j w (c.toList.take (list.length*8)) hclen ?_ ?_ ?_ hle hlt hjl).mono ?_
   ·intro t u hu
    simp [World.cell?,hheap,(hget t u hu).2]
   ·intro t ht
    simp [World.frozen?,hheap]
   ·intro u hu
    obtain ⟨t,ht,rfl⟩:=List.getElem_of_mem hu
    obtain ⟨ht8,hc⟩:=hget t _ (List.getElem?_eq_getElem ht)
    have hs:t/8<list.length:=by omega
    have hlen:=El.cells_len EFT list[t/8]
    rw [h8] at hlen
    obtain ⟨v,hv,hr⟩:=hcells (t/8) list[t/8] (List.getElem?_eq_getElem hs) (t%8) _ (List.getElem?_eq_getElem (by rw [hlen];omega))
    rw [show t/8*8+t%8=t by omega,hc] at hv
    cases hv
    exact VRc.one hr
   ·rintro e w' ⟨rfl,rfl⟩
    refine ⟨_,rfl,?_⟩
    generalize hZ:(Builtin.zeroCells z.cells (list.length-(i+(list.length-j)))).toList=Z
    have hZl:Z.length=(list.length-(i+(list.length-j)))*8:=by rw [←hZ];simp [Builtin.zeroCells,hzc]
    have hnl:((c.toList.take (list.length*8)).drop (j*8)).length=(list.length-j)*8:=by rw [List.length_drop,hclen];omega
    simp only [Nat.zero_add]
    obtain ⟨c1,g1,g2,g3⟩:=Zhq (b:=b) (fz:=(0,0)) ((c.toList.take (list.length*8)).drop (j*8)) (i*8) (w:=w.drew) hheap (by rw [hnl];omega)
    obtain ⟨c2,k1,k2,k3⟩:=Zhq (b:=b) (fz:=(0,0)) Z ((i+(list.length-j))*8) g1 (by rw [hZl];omega)
    obtain ⟨p1,p2,p3,p4,p5⟩:=Zhi b ((c.toList.take (list.length*8)).drop (j*8)) (i*8) w.drew
    obtain ⟨q1,q2,q3,q4,q5⟩:=Zhi b Z ((i+(list.length-j))*8) (w.drew.setCells b (i*8) ((c.toList.take (list.length*8)).drop (j*8)))
    have hne:∀b',b'≠b→((w.drew.setCells b (i*8) ((c.toList.take (list.length*8)).drop (j*8))).setCells b ((i+(list.length-j))*8) Z).heap[b']? = w.heap[b']?:=fun b' hb'=>(q5 b' hb').trans ((p5 b' hb').trans rfl)
    have hN:∀b',N b'→((w.drew.setCells b (i*8) ((c.toList.take (list.length*8)).drop (j*8))).setCells b ((i+(list.length-j))*8) Z).heap[b']? = w.heap[b']?:=fun b' hb'=>hne b' (fun e=>hown.1 (e ▸ hb'))
    refine fin _ _ (q1.trans (p1.trans rfl)) (q2.trans (p2.trans rfl)) (q3.trans (p3.trans rfl)) (q4.trans (p4.trans rfl)) hN (fun b' hb'=>hne b' (fun e=>hown.2 (e ▸ hb'))) (fun ι'=>?_) ⟨_,_,_,rfl⟩
    refine ⟨some ⟨b,0,none⟩,cap,by rw [hlist,show list.length-(j-i)=i+(list.length-j) by omega],by rw [hlist];omega,.inr ⟨b,c2,T,rfl,hown,k1,by rw [h8,k2,g2];exact hsz,?_⟩⟩
    rw [h8]
    intro m x hx f av hav
    have hf8:f<8:=by
     have:=(List.getElem?_eq_some_iff.1 hav).1
     rw [El.cells_len,h8] at this;exact this
    have hm:m<i+(list.length-j):=by
     have:=(List.getElem?_eq_some_iff.1 hx).1
     rw [hlist] at this;exact this
    have hc2:c2[m*8+f]? = c1[m*8+f]?:=by rw [k3,if_neg (by omega)]
    rcases Nat.lt_or_ge m i with hmi | hmi
    ·rw [List.getElem?_append_left (by rw [List.length_take];omega),List.getElem?_take,if_pos hmi] at hx
     obtain ⟨v,hv,hr⟩:=hcells m x hx f av hav
     exact ⟨v,by rw [hc2,g3,if_neg (by omega)];exact hv,VRc.mono (fun _ h=>h) hN hr⟩
    ·rw [List.getElem?_append_right (by rw [List.length_take];omega),List.length_take,List.getElem?_drop] at hx
     obtain ⟨v,hv,hr⟩:=hcells _ x hx f av hav
     refine ⟨v,?_,VRc.mono (fun _ h=>h) hN hr⟩
     rw [hc2,g3,if_pos (by rw [hnl];omega),List.getElem?_drop,List.getElem?_take,if_pos (by omega),Array.getElem?_toList,←hv]
     congr 1
     omega
  ·obtain rfl:i=j:=by omega
   refine (Zr5 L z23 a list.length cap i w hle hjl (fun e=>?_)).mono ?_
   ·rcases hcase with h | ⟨b,c,T,rfl,_⟩
    ·exact h
    ·cases e
   ·rintro e w' ⟨rfl,rfl⟩
    refine ⟨_,rfl,fin _ w' rfl rfl rfl rfl (fun _ _=>rfl) (fun _ _=>rfl) (fun ι'=>?_) ⟨_,_,_,rfl⟩⟩
    rw [List.take_append_drop]
    exact ⟨a,cap,rfl,hle,hcase⟩
 | [],hv=>simp [VRL] at hv
 | [_],hv=>simp [VRL] at hv
 | [_,_],hv=>simp [VRL] at hv
 | _::_::_::_::_,hv=>simp [VRL] at hv
end Ev
end

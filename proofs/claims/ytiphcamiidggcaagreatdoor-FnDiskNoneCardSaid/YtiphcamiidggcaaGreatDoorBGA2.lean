/- An evaluator over the code of the model, and that it is right. Conditions: as stated. -/
import Derived.Laws.StructEq
import Derived.ChangeKeysEq
import Derived.ChangeArms
import Derived.Below
import Derived.DataShut
import Derived.ChangeMaps5
import Derived.WideShapes
import GoSem.ClaimJoined
import Derived.OpenShut
import Derived.Laws.Externs
import Derived.Laws.BitsLemmas
import Derived.Test.YtiphcamiidggcaaGreatDoorBGA1
set_option linter.unusedVariables false
set_option linter.unusedSimpArgs false
section
namespace Ev
open Go
def ZwT (P:Program) (g:TypeId→FT→Option FT):List Field→Nat→FT→Option FT
 | [],_,ft=>some ft
 | f::r,o,ft=>match g f.type ft with
  | some ft'=>cond (decide (f.name ≠ "_")&&(Nat.beq f.offset o&&Nat.ble (ZaI ft') (ZaI ft))) (ZwT P g r (o+(ZaI ft-ZaI ft')) ft') none
  | none=>none
def ZuU (P:Program):Nat→TypeId→FT→Option FT
 | 0,_,_=>none
 | n+1,t,ft=>match P.underlying t with
  | some (.int _)=>(match ft with
   | .int _::r=>some r
   | _=>none)
  | some .bool=>(match ft with
   | .bool::r=>some r
   | _=>none)
  | some .string=>(match ft with
   | .str::r=>some r
   | _=>none)
  | some (.struct fs)=>cond (P.stoodInHeld t) none (match ZwT P (ZuU P n) fs.toList 0 ft with
   | some r=>cond (Nat.beq (P.cellsOf t) (ZaI ft-ZaI r)) (some r) none
   | none=>none)
  | _=>none
def eqB (P:Program) (t:TypeId) (ft:FT):Bool:=
 (match P.underlying t with
 | some (.struct _)=>true
 | _=>false)&&(!P.eqGuardType P.depth t&&(Zcb ft&&(match ZuU P 9 t ft with
  | some []=>true
  | _=>false)))
theorem ZdC:∀{t:FT} {as bs:List AV} {r:Bool},Zbe t as bs=some r→as.length=t.length∧bs.length=t.length
 | [],[],[],_,_=>⟨rfl,rfl⟩
 | [],[],_::_,_,h=>by simp [Zbe] at h
 | [],_::_,_,_,h=>by simp [Zbe] at h
 | _::_,[],_,_,h=>by simp [Zbe] at h
 | _::_,_::_,[],_,h=>by simp [Zbe] at h
 | s::t,a::l,b::m,r,h=>by
  simp only [Zbe] at h
  split at h
  ·rename_i q hq
   have:=ZdC hq
   simp [this.1,this.2]
  ·cases h
theorem ZpV {s:Sc} {t:FT} {a b:AV} {l m:List AV} {r:Bool} (h:Zbe (s::t) (a::l) (b::m)=some r):∃p q,Zbe [s] [a] [b]=some p∧Zbe t l m=some q∧r=(p&&q):=by
 simp only [Zbe] at h
 split at h
 ·rename_i q hq
  cases s with
  | int k0=>
   cases a with
   | int k x=>
    cases b with
    | int k' y=>
     simp only at h
     split at h
     ·rename_i ek;cases h;exact ⟨x==y,q,by simp [Zbe,ek],hq,rfl⟩
     ·cases h
    | _=>simp at h
   | _=>simp at h
  | bool=>
   cases a with
   | bool x=>
    cases b with
    | bool y=>simp only [Option.some.injEq] at h;exact ⟨x==y,q,by simp [Zbe],hq,h.symm⟩
    | _=>simp at h
   | _=>simp at h
  | str=>
   cases a with
   | str x=>
    cases b with
    | str y=>simp only [Option.some.injEq] at h;exact ⟨x==y,q,by simp [Zbe],hq,h.symm⟩
    | _=>simp at h
   | _=>simp at h
  | ints k0=>simp at h
 ·cases h
theorem ZpU {s:Sc} {t:FT} {a b:AV} {l m:List AV} {p q:Bool} (h:Zbe [s] [a] [b]=some p) (k:Zbe t l m=some q):Zbe (s::t) (a::l) (b::m)=some (p&&q):=by
 simp only [Zbe] at h ⊢
 rw [k]
 cases s with
 | int k0=>
  cases a with
  | int k x=>
   cases b with
   | int k' y=>
    simp only at h ⊢
    split at h
    ·rename_i ek;rw [if_pos ek];simp only [Bool.and_true,Option.some.injEq] at h;rw [h]
    ·cases h
   | _=>simp at h
  | _=>simp at h
 | bool=>
  cases a with
  | bool x=>
   cases b with
   | bool y=>simp only [Bool.and_true,Option.some.injEq] at h ⊢;rw [h]
   | _=>simp at h
  | _=>simp at h
 | str=>
  cases a with
  | str x=>
   cases b with
   | str y=>simp only [Bool.and_true,Option.some.injEq] at h ⊢;rw [h]
   | _=>simp at h
  | _=>simp at h
 | ints k0=>simp at h
theorem Zlp:∀{t u:FT} {as bs:List AV} {r:Bool},Zbe (t++u) as bs=some r→∃p q,Zbe t (as.take t.length) (bs.take t.length)=some p∧Zbe u (as.drop t.length) (bs.drop t.length)=some q∧r=(p&&q)
 | [],u,as,bs,r,h=>⟨true,r,by simp [Zbe],by simpa using h,by simp⟩
 | s::t,u,[],_,_,h=>by simp [Zbe] at h
 | s::t,u,_::_,[],_,h=>by simp [Zbe] at h
 | s::t,u,a::l,b::m,r,h=>by
  obtain ⟨p,q,h1,h2,rfl⟩:=ZpV (t:=t++u) h
  obtain ⟨p',q',h3,h4,rfl⟩:=Zlp h2
  refine ⟨p&&p',q',?_,by simpa using h4,by simp [Bool.and_assoc]⟩
  simp only [List.length_cons,List.take_succ_cons]
  exact ZpU h1 h3
section
variable {P:Program} {ι:Nat→Option Value} {N:Nat→Prop} {w:World}
def At (ι:Nat→Option Value) (N:Nat→Prop) (w:World) (xs:Array Value) (o:Nat) (as:List AV):Prop:=∀(i:Nat) a,as[i]? = some a→∃v,xs[o+i]? = some v∧VR ι N w a v
theorem At.take {xs:Array Value} {o n:Nat} {as:List AV} (h:At ι N w xs o as):At ι N w xs o (as.take n):=fun i a ha=>by
 rw [List.getElem?_take] at ha
 split at ha
 ·exact h i a ha
 ·cases ha
theorem At.drop {xs:Array Value} {o n:Nat} {as:List AV} (h:At ι N w xs o as):At ι N w xs (o+n) (as.drop n):=fun i a ha=>by
 rw [List.getElem?_drop] at ha
 obtain ⟨v,e1,e2⟩:=h _ a ha
 exact ⟨v,by rw [←e1];congr 1;omega,e2⟩
def EqTo (P:Program) (ι:Nat→Option Value) (N:Nat→Prop) (w:World) (d:Nat) (t:TypeId) (u:FT):Prop:=
 ∀(xs ys:Array Value) (o:Nat) (as bs:List AV) (r:Bool),At ι N w xs o as→At ι N w ys o bs→Zbe u as bs=some r→
  ∃a b,(part t xs o).run P w=.ok a w∧(part t ys o).run P w=.ok b w∧(Op.equalIn d t a b).run P w=.ok r w
theorem Zsa {g:TypeId→FT→Option FT} {d:Nat} (hg:∀t ft r,g t ft=some r→∃u,ft=u++r∧EqTo P ι N w d t u) :
  ∀(fs:List Field) (o:Nat) (ft r:FT),ZwT P g fs o ft=some r→∃u,ft=u++r∧∀(xs ys:Array Value) (as bs:List AV) (q:Bool),At ι N w xs o as→At ι N w ys o bs→Zbe u as bs=some q→
   (Op.eqFields d xs ys fs).run P w=.ok q w
 | [],o,ft,r,h=>by
  simp only [ZwT,Option.some.injEq] at h;subst h
  refine ⟨[],rfl,fun xs ys as bs q _ _ hq=>?_⟩
  have:=ZdC hq
  have e1:as=[]:=List.length_eq_zero_iff.1 this.1
  have e2:bs=[]:=List.length_eq_zero_iff.1 this.2
  subst e1 e2
  simp only [Zbe,Option.some.injEq] at hq
  subst hq
  simp [Op.eqFields]
 | f::fs,o,ft,r,h=>by
  simp only [ZwT] at h
  split at h
  ·rename_i ft' hf
   cases hc:(decide (f.name ≠ "_")&&(Nat.beq f.offset o&&Nat.ble (ZaI ft') (ZaI ft))) with
   | false=>rw [hc] at h;simp at h
   | true=>
    rw [hc] at h;simp only [cond_true] at h
    simp only [Bool.and_eq_true,decide_eq_true_eq] at hc
    obtain ⟨hn,ho,_⟩:=hc
    have ho:=Nat.eq_of_beq_eq_true ho
    obtain ⟨u1,e1,he1⟩:=hg _ _ _ hf
    have hl:ZaI ft-ZaI ft'=u1.length:=by rw [Zbi,Zbi,e1];simp
    rw [hl] at h
    obtain ⟨u2,e2,he2⟩:=Zsa hg fs _ _ _ h
    refine ⟨u1++u2,by rw [e1,e2,List.append_assoc],fun xs ys as bs q hx hy hq=>?_⟩
    obtain ⟨p,q',h1,h2,rfl⟩:=Zlp hq
    obtain ⟨a,b,ra,rb,re⟩:=he1 xs ys o _ _ p hx.take hy.take h1
    have hr:=he2 xs ys _ _ q' hx.drop hy.drop h2
    unfold Op.eqFields
    rw [if_pos hn,ho]
    simp only [Sem.run_bind,ra,rb,re,Result.andThen_ok]
    cases p with
    | true=>simp [hr]
    | false=>simp [Sem.run_pure]
  ·cases h
theorem ZcU {t:TypeId} {d:TypeDesc} (hu:P.underlying t=some d) (hd:d.isRow=false) {xs:Array Value} {o:Nat} {v:Value} (hx:xs[o]? = some v):(part t xs o).run P w=.ok v w:=by
 unfold part
 rw [Sem.run_bind,ZdF hu,Result.andThen_ok,hd]
 simp [hx]
theorem Zn5:∀(n:Nat) (t:TypeId) (ft r:FT) (d:Nat),n≤d→ZuU P n t ft=some r→∃u,ft=u++r∧EqTo P ι N w d t u
 | 0,t,ft,r,d,_,h=>by simp [ZuU] at h
 | n+1,t,ft,r,0,hd,h=>by omega
 | n+1,t,ft,r,d+1,hd,h=>by
  simp only [ZuU] at h
  split at h
  ·rename_i k hu
   split at h
   ·rename_i k' r'
    cases h
    refine ⟨[.int k'],rfl,fun xs ys o as bs q hx hy hq=>?_⟩
    have hl:=ZdC hq
    match as,bs,hl with
    | [a],[b],_=>
     obtain ⟨v,e1,e2⟩:=hx 0 a rfl
     obtain ⟨u,f1,f2⟩:=hy 0 b rfl
     simp only [Zbe] at hq
     split at hq
     ·rename_i k1 x k2 y hs
      split at hq
      ·rename_i ek;subst ek
       simp only [VR] at e2 f2
       subst e2 f2
       simp only [Bool.and_true,Option.some.injEq] at hq
       exact ⟨_,_,ZcU hu rfl e1,ZcU hu rfl f1,by rw [run_equalIn_int w d t _ k _ _ hu,hq]⟩
      ·cases hq
     ·contradiction
     ·contradiction
     ·cases hq
   ·cases h
  ·rename_i hu
   split at h
   ·rename_i r'
    cases h
    refine ⟨[.bool],rfl,fun xs ys o as bs q hx hy hq=>?_⟩
    have hl:=ZdC hq
    match as,bs,hl with
    | [a],[b],_=>
     obtain ⟨v,e1,e2⟩:=hx 0 a rfl
     obtain ⟨u,f1,f2⟩:=hy 0 b rfl
     simp only [Zbe] at hq
     split at hq
     ·contradiction
     ·simp only [VR] at e2 f2
      subst e2 f2
      simp only [Bool.and_true,Option.some.injEq] at hq
      exact ⟨_,_,ZcU hu rfl e1,ZcU hu rfl f1,by rw [run_equalIn_bool' w d t _ _ hu,hq]⟩
     ·contradiction
     ·cases hq
   ·cases h
  ·rename_i hu
   split at h
   ·rename_i r'
    cases h
    refine ⟨[.str],rfl,fun xs ys o as bs q hx hy hq=>?_⟩
    have hl:=ZdC hq
    match as,bs,hl with
    | [a],[b],_=>
     obtain ⟨v,e1,e2⟩:=hx 0 a rfl
     obtain ⟨u,f1,f2⟩:=hy 0 b rfl
     simp only [Zbe] at hq
     split at hq
     ·contradiction
     ·contradiction
     ·simp only [VR] at e2 f2
      subst e2 f2
      simp only [Bool.and_true,Option.some.injEq] at hq
      exact ⟨_,_,ZcU hu rfl e1,ZcU hu rfl f1,by rw [run_equalIn_string w d t _ _ hu,ByteArray.toList_eq,ByteArray.toList_eq];simp [hq]⟩
     ·cases hq
   ·cases h
  ·rename_i fs hu
   cases hh:P.stoodInHeld t with
   | true=>rw [hh] at h;simp at h
   | false=>
    rw [hh] at h;simp only [cond_false] at h
    split at h
    ·rename_i r' hr
     cases hc:Nat.beq (P.cellsOf t) (ZaI ft-ZaI r') with
     | false=>rw [hc] at h;simp at h
     | true=>
      rw [hc] at h;simp only [cond_true,Option.some.injEq] at h
      subst h
      have hc:=Nat.eq_of_beq_eq_true hc
      obtain ⟨u,e,he⟩:=Zsa (d:=d) (fun t ft r hq=>Zn5 n t ft r d (by omega) hq) fs.toList 0 ft r' hr
      have hlen:P.cellsOf t=u.length:=by rw [hc,Zbi,Zbi,e];simp
      refine ⟨u,e,fun xs ys o as bs q hx hy hq=>?_⟩
      obtain ⟨i,hi⟩:=_root_.Go.info_of_underlying hu
      have hso:(Go.sizeOf t).run P w=.ok u.length w:=by rw [←hlen];exact _root_.Go.run_sizeOf w hi
      have hp:∀zs:Array Value,(part t zs o).run P w=.ok (.agg (zs.extract o (o+u.length))) w:=fun zs=>by
       unfold part
       rw [Sem.run_bind,ZdF hu,Result.andThen_ok]
       simp [TypeDesc.isRow,hso]
      have hl:=ZdC hq
      have hat:∀{zs:Array Value} {cs:List AV},At ι N w zs o cs→cs.length=u.length→At ι N w (zs.extract o (o+u.length)) 0 cs:=fun {zs cs} hz hcl i a ha=>by
       obtain ⟨v,e1,e2⟩:=hz i a ha
       have hil:i<cs.length:=(List.getElem?_eq_some_iff.1 ha).1
       refine ⟨v,?_,e2⟩
       rw [Array.getElem?_extract]
       have:o+i<zs.size:=(Array.getElem?_eq_some_iff.1 e1).1
       rw [if_pos (by omega),Nat.zero_add];exact e1
      refine ⟨_,_,hp xs,hp ys,?_⟩
      have hf:P.fieldsOf t=fs:=by simp [Program.fieldsOf,hu]
      rw [run_equalIn_struct w d t _ _ (by rw [hf];exact hu) hh,hf]
      exact he _ _ as bs q (hat hx hl.1) (hat hy hl.2) hq
    ·cases h
  ·cases h
theorem Zit:∀(n:Nat) (t:TypeId) (ft r:FT) (d:Nat) (e:Bool),n≤d→ZuU P n t ft=some r→Zcb ft=true→∃u,ft=u++r∧∀(xs:Array Value) (o:Nat) (as:List AV),At ι N w xs o as→as.length=u.length→
  (∀(i:Nat) a s,as[i]? = some a→u[i]? = some s→(match s,a with | .int _,.int _ _=>True | .bool,.bool _=>True | .str,.str _=>True | _,_=>False))→
  ∃v,(part t xs o).run P w=.ok v w∧(Instr.checkKey e d t v).run P w=.ok () w
 | 0,t,ft,r,d,e,_,h,_=>by simp [ZuU] at h
 | n+1,t,ft,r,0,e,hd,h,_=>by omega
 | n+1,t,ft,r,d+1,e,hd,h,hfl=>by
  have hE:=Zn5 (P:=P) (ι:=ι) (N:=N) (w:=w) (n+1) t ft r (d+1) hd h
  simp only [ZuU] at h
  split at h
  ·rename_i k hu
   split at h
   ·cases h
    refine ⟨[_],rfl,fun xs o as hx hl hk=>?_⟩
    match as,hl with
    | [a],_=>
     obtain ⟨v,e1,e2⟩:=hx 0 a rfl
     have:=hk 0 a _ rfl rfl
     cases a<;>simp at this
     simp only [VR] at e2;subst e2
     exact ⟨_,ZcU hu rfl e1,by simp [Instr.checkKey,Sem.run_bind,run_underlying hu]⟩
   ·cases h
  ·rename_i hu
   split at h
   ·cases h
    refine ⟨[_],rfl,fun xs o as hx hl hk=>?_⟩
    match as,hl with
    | [a],_=>
     obtain ⟨v,e1,e2⟩:=hx 0 a rfl
     have:=hk 0 a _ rfl rfl
     cases a<;>simp at this
     simp only [VR] at e2;subst e2
     exact ⟨_,ZcU hu rfl e1,by simp [Instr.checkKey,Sem.run_bind,run_underlying hu]⟩
   ·cases h
  ·rename_i hu
   split at h
   ·cases h
    refine ⟨[_],rfl,fun xs o as hx hl hk=>?_⟩
    match as,hl with
    | [a],_=>
     obtain ⟨v,e1,e2⟩:=hx 0 a rfl
     have:=hk 0 a _ rfl rfl
     cases a<;>simp at this
     simp only [VR] at e2;subst e2
     exact ⟨_,ZcU hu rfl e1,by simp [Instr.checkKey,Sem.run_bind,run_underlying hu]⟩
   ·cases h
  ·rename_i fs hu
   cases hh:P.stoodInHeld t with
   | true=>rw [hh] at h;simp at h
   | false=>
    rw [hh] at h;simp only [cond_false] at h
    split at h
    ·rename_i r' hr
     cases hc:Nat.beq (P.cellsOf t) (ZaI ft-ZaI r') with
     | false=>rw [hc] at h;simp at h
     | true=>
      rw [hc] at h;simp only [cond_true,Option.some.injEq] at h
      subst h
      have hc:=Nat.eq_of_beq_eq_true hc
      have loop:∀(fs:List Field) (o:Nat) (ft r:FT),ZwT P (ZuU P n) fs o ft=some r→Zcb ft=true→∃u,ft=u++r∧∀(cs:Array Value) (as:List AV),At ι N w cs o as→as.length=u.length→
        (∀(i:Nat) a s,as[i]? = some a→u[i]? = some s→(match s,a with | .int _,.int _ _=>True | .bool,.bool _=>True | .str,.str _=>True | _,_=>False))→
        (forIn (m:=Sem) fs PUnit.unit (fun f _=>do
         if f.name ≠ "_" then Instr.checkKey e d f.type (←part f.type cs f.offset)
         pure (ForInStep.yield PUnit.unit))).run P w=.ok PUnit.unit w:=by
       intro fs
       induction fs with
       | nil=>
        intro o ft r h _
        simp only [ZwT,Option.some.injEq] at h;subst h
        exact ⟨[],rfl,fun cs as _ _ _=>by simp⟩
       | cons f fs ih=>
        intro o ft r h hfl
        simp only [ZwT] at h
        split at h
        ·rename_i ft' hf
         cases hc:(decide (f.name ≠ "_")&&(Nat.beq f.offset o&&Nat.ble (ZaI ft') (ZaI ft))) with
         | false=>rw [hc] at h;simp at h
         | true=>
          rw [hc] at h;simp only [cond_true] at h
          simp only [Bool.and_eq_true,decide_eq_true_eq] at hc
          obtain ⟨hn,ho,_⟩:=hc
          have ho:=Nat.eq_of_beq_eq_true ho
          obtain ⟨u1,e1,he1⟩:=Zit n f.type ft ft' d e (by omega) hf hfl
          have hl:ZaI ft-ZaI ft'=u1.length:=by rw [Zbi,Zbi,e1];simp
          rw [hl] at h
          have hfl':Zcb ft'=true:=by
           rw [e1] at hfl
           clear hl he1 e1 h
           induction u1 with
           | nil=>exact hfl
           | cons s u ih=>cases s<;>simp [Zcb] at hfl<;>exact ih hfl
          obtain ⟨u2,e2,he2⟩:=ih _ _ _ h hfl'
          refine ⟨u1++u2,by rw [e1,e2,List.append_assoc],fun cs as hx hl hk=>?_⟩
          have hl':as.length=u1.length+u2.length:=by simpa using hl
          obtain ⟨v,p1,p2⟩:=he1 cs o (as.take u1.length) hx.take (by simp;omega) (fun i a s ha hs=>hk i a s (by
           rw [List.getElem?_take] at ha
           split at ha
           ·exact ha
           ·cases ha) (by rw [List.getElem?_append_left (List.getElem?_eq_some_iff.1 hs).1];exact hs))
          have hr:=he2 cs (as.drop u1.length) hx.drop (by simp;omega) (fun i a s ha hs=>hk (u1.length+i) a s (by rw [List.getElem?_drop] at ha;exact ha) (by
           rw [List.getElem?_append_right (by omega)];rw [Nat.add_sub_cancel_left];exact hs))
          rw [List.forIn_cons]
          simp only [Sem.run_bind,Sem.run_ite,if_pos hn,ho,p1,p2,Result.andThen_ok,Sem.run_pure]
          exact hr
        ·cases h
      obtain ⟨u,e1,he⟩:=loop fs.toList 0 ft r' hr hfl
      have hlen:P.cellsOf t=u.length:=by rw [hc,Zbi,Zbi,e1];simp
      refine ⟨u,e1,fun xs o as hx hl hk=>?_⟩
      obtain ⟨i,hi⟩:=_root_.Go.info_of_underlying hu
      have hso:(Go.sizeOf t).run P w=.ok u.length w:=by rw [←hlen];exact _root_.Go.run_sizeOf w hi
      refine ⟨.agg (xs.extract o (o+u.length)),?_,?_⟩
      ·unfold part
       rw [Sem.run_bind,ZdF hu,Result.andThen_ok]
       simp [TypeDesc.isRow,hso]
      ·have hat:At ι N w (xs.extract o (o+u.length)) 0 as:=fun i a ha=>by
        obtain ⟨v,e1,e2⟩:=hx i a ha
        have hil:i<as.length:=(List.getElem?_eq_some_iff.1 ha).1
        refine ⟨v,?_,e2⟩
        rw [Array.getElem?_extract]
        have:o+i<xs.size:=(Array.getElem?_eq_some_iff.1 e1).1
        rw [if_pos (by omega),Nat.zero_add];exact e1
       have:=he _ as hat hl hk
       simp only [Instr.checkKey,Sem.run_bind,run_underlying hu,Result.andThen_ok]
       rw [←Array.forIn_toList]
       rw [this]
       simp
    ·cases h
  ·cases h
theorem ZjQ:∀(t:FT) (x:El t),(El.cells t x).length=t.length
 | [],_=>rfl
 | [s],x=>rfl
 | s::s'::r,x=>by simp only [El.cells,List.length_cons,ZjQ (s'::r) x.2]
theorem Znc:∀{t:FT},Zcb t=true→∀(x:El t) (i:Nat) a s,(El.cells t x)[i]? = some a→t[i]? = some s→(match s,a with | .int _,.int _ _=>True | .bool,.bool _=>True | .str,.str _=>True | _,_=>False)
 | [],_,_,i,a,s,h,_=>by simp [El.cells] at h
 | [s0],hf,x,i,a,s,h,hs=>by
  cases i with
  | zero=>
   simp [El.cells] at h hs;subst h hs
   cases s0<;>simp [Sc.av,Zcb] at hf ⊢
  | succ i=>simp [El.cells] at h
 | s0::s1::r,hf,x,i,a,s,h,hs=>by
  have hf':Zcb (s1::r)=true:=by cases s0<;>simp [Zcb] at hf ⊢<;>exact hf
  cases i with
  | zero=>
   simp [El.cells] at h hs;subst h hs
   cases s0<;>simp [Sc.av,Zcb] at hf ⊢
  | succ i=>exact Znc hf' x.2 i a s (by simpa [El.cells] using h) (by simpa using hs)
end
theorem Zxs {P:Program} {t:TypeId} {ft:FT} (h:eqB P t ft=true):EqOk P t ft:=by
 unfold eqB at h
 simp only [Bool.and_eq_true,Bool.not_eq_true'] at h
 obtain ⟨h1,h2,h3,h4⟩:=h
 have hu:∃fs,P.underlying t=some (.struct fs):=by
  split at h1
  ·rename_i fs hu;exact ⟨fs,hu⟩
  ·cases h1
 have he:ZuU P 9 t ft=some []:=by
  split at h4
  ·assumption
  ·cases h4
 obtain ⟨fs,hu⟩:=hu
 obtain ⟨i,hi⟩:=_root_.Go.info_of_underlying hu
 have part0:∀(w:World) (xs:Array Value),xs.size=P.cellsOf t→(part t xs 0).run P w=.ok (.agg xs) w:=fun w xs hs=>by
  unfold part
  rw [Sem.run_bind,ZdF hu,Result.andThen_ok]
  have hso:(Go.sizeOf t).run P w=.ok (P.cellsOf t) w:=_root_.Go.run_sizeOf w hi
  simp [TypeDesc.isRow,hso,←hs]
 have hcl:P.cellsOf t=ft.length:=by
  simp only [ZuU,hu] at he
  cases hh:P.stoodInHeld t with
  | true=>rw [hh] at he;simp at he
  | false=>
   rw [hh] at he;simp only [cond_false] at he
   split at he
   ·rename_i r' hr
    cases hc:Nat.beq (P.cellsOf t) (ZaI ft-ZaI r') with
    | false=>rw [hc] at he;simp at he
    | true=>
     rw [hc] at he;simp only [cond_true,Option.some.injEq] at he
     subst he
     have:=Nat.eq_of_beq_eq_true hc
     rw [Zbi] at this;simpa [ZaI] using this
   ·cases he
 have at0:∀{w:World} {ι:Nat→Option Value} {N:Nat→Prop} {xs:Array Value} {as:List AV},VRL ι N w as xs.toList→At ι N w xs 0 as:=fun {w ι N xs as} hv i a ha=>by
  obtain ⟨v,e1,e2⟩:=hv.get i a ha
  exact ⟨v,by rw [Nat.zero_add];simpa using e1,e2⟩
 refine ⟨⟨fs,hu⟩,h2,h3,fun w ι N xs ys as bs r hx hy hq=>?_,fun w ι N xs x e hx=>?_⟩
 ·obtain ⟨u,e1,hE⟩:=Zn5 (P:=P) (ι:=ι) (N:=N) (w:=w) 9 t ft [] 10000 (by omega) he
  have e1:ft=u:=by simpa using e1
  subst e1
  have hl:=ZdC hq
  obtain ⟨a,b,pa,pb,hr⟩:=hE xs ys 0 as bs r (at0 hx) (at0 hy) hq
  rw [part0 w xs (by have:=hx.len;simp at this;omega)] at pa
  rw [part0 w ys (by have:=hy.len;simp at this;omega)] at pb
  cases pa;cases pb
  exact hr
 ·obtain ⟨u,e1,hE⟩:=Zit (P:=P) (ι:=ι) (N:=N) (w:=w) 9 t ft [] 10000 e (by omega) he h3
  have e1:ft=u:=by simpa using e1
  subst e1
  have hlc:(El.cells ft x).length=ft.length:=by rw [ZjQ]
  obtain ⟨v,pv,hr⟩:=hE xs 0 _ (at0 hx) hlc (fun i a s=>Znc h3 x i a s)
  rw [part0 w xs (by have:=hx.len;simp at this;omega)] at pv
  cases pv
  exact hr
end Ev
end
section
namespace Ev
open Go
def Zjf (P:Program):List (Nat×Nat×Bool)→List Field→Bool
 | [],[]=>true
 | (o,n,g)::fs,f::r=>Nat.beq f.offset o&&(match P.info? f.type with
   | some i=>Nat.beq i.size n
   | none=>false)&&(match rowB P f.type with
   | some b=>b==g
   | none=>false)&&Zjf P fs r
 | _,_=>false
def tdC (P:Program):TD→Option TypeDesc→Bool
 | .int k,some (.int k')=>decide (k=k')
 | .bool,some .bool=>true
 | .str,some .string=>true
 | .ptr e,some (.pointer e')=>Nat.beq e e'
 | .slice e,some (.slice e')=>Nat.beq e e'
 | .struct fs,some (.struct fields)=>Zjf P fs fields.toList
 | .map k v,some (.map k' v')=>Nat.beq k k'&&Nat.beq v v'
 | .other,_=>true
 | _,_=>false
def ZnJ:Str→Bool
 | []=>true
 | _=>false
def zC:AV→Value→Bool
 | .undef,v=>v.oneCell'
 | .int k n,.int k' n'=>decide (k=k')&&decide (n=n')
 | .bool b,.bool b'=>b==b'
 | .str [],.string s=>ZnJ s.data.toList
 | .nilsl,.slice none 0 0=>true
 | .nilp,.pointer none=>true
 | _,_=>false
def zsC:List AV→List Value→Bool
 | [],[]=>true
 | a::as,v::vs=>zC a v&&zsC as vs
 | _,_=>false
def cC:AV→Value→Bool
 | .int k n,.int k' n'=>decide (k=k')&&decide (n=n')
 | .bool b,.bool b'=>b==b'
 | .str [],.string s=>ZnJ s.data.toList
 | .ro _ [],.slice none 0 0=>true
 | _,_=>false
def csC:List AV→List Value→Bool
 | [],_=>true
 | a::as,v::vs=>cC a v&&csC as vs
 | _,_=>false
def tiC (P:Program) (t:Nat) (x:TI):Bool:=
 tdC P x.d (P.underlying t)&&(x.d.isOther||(match P.info? t with
  | some i=>match i.zero with
   | some z=>Nat.beq i.size x.size&&Nat.blt 0 i.size&&Nat.ble i.bytes 128&&zsC x.zero z.cells.toList&&Nat.beq z.cells.size i.size&&(x.d.isAgg||Nat.beq i.size 1)&&(match x.ft with
    | some f=>Nat.beq (ZaI f) x.size&&Nat.blt 0 (ZaI f)&&csC (El.cells f (El.dflt f)) z.cells.toList
    | none=>true)
   | none=>false
  | none=>false))&&(match x.ft with
  | some _=>!x.d.isOther
  | none=>true)
def tisC (P:Program):List (Nat×TI)→Bool
 | []=>true
 | (t,x)::l=>tiC P t x&&tisC P l
def Zoq:TI:=⟨.other,0,0,[],none⟩
def Zto:List (Nat×TI)→Nat→TI
 | [],_=>Zoq
 | (t,x)::l,n=>cond (Nat.beq t n) x (Zto l n)
theorem Zm6 {P:Program}:∀{fs:List (Nat×Nat×Bool)} {l:List Field},Zjf P fs l=true→ZeC P fs l
 | [],[],_=>trivial
 | (o,n,g)::fs,f::r,h=>by
  simp only [Zjf,Bool.and_eq_true] at h
  obtain ⟨⟨⟨h1,h2⟩,h3⟩,h4⟩:=h
  refine ⟨Nat.eq_of_beq_eq_true h1,?_,?_,Zm6 h4⟩
  ·split at h2
   ·rename_i i hi;rw [hi];simp [Nat.eq_of_beq_eq_true h2]
   ·cases h2
  ·split at h3
   ·rename_i b hb;rw [hb];simpa using h3
   ·cases h3
 | [],_::_,h=>by simp [Zjf] at h
 | _::_,[],h=>by simp [Zjf] at h
theorem tdC_ok {P:Program} {d:TD} {u:Option TypeDesc} (h:tdC P d u=true):TDR P d u:=by
 unfold tdC at h
 split at h<;>simp only [TDR]
 ·simp only [decide_eq_true_eq] at h;rw [h]
 ·rw [Nat.eq_of_beq_eq_true h]
 ·rw [Nat.eq_of_beq_eq_true h]
 ·exact ⟨_,rfl,Zm6 h⟩
 ·simp only [Bool.and_eq_true] at h
  rw [Nat.eq_of_beq_eq_true h.1,Nat.eq_of_beq_eq_true h.2]
 ·cases h
theorem Zmv {s:ByteArray} (h:ZnJ s.data.toList=true):Value.string s=.string ⟨([]:List UInt8).toArray⟩:=by
 unfold ZnJ at h
 split at h
 ·rename_i e
  obtain ⟨⟨l⟩⟩:=s
  simp only at e
  subst e;rfl
 ·cases h
theorem zC_ok {a:AV} {v:Value} (h:zC a v=true):VR (fun _=>none) (fun _=>False) default a v∧v.oneCell'=true:=by
 unfold zC at h
 split at h
 ·simp only [VR];exact ⟨trivial,h⟩
 ·simp only [Bool.and_eq_true,decide_eq_true_eq] at h
  simp only [VR];rw [h.1,h.2];exact ⟨rfl,rfl⟩
 ·simp only [VR];simp only [beq_iff_eq] at h;rw [h];exact ⟨rfl,rfl⟩
 ·simp only [VR];exact ⟨Zmv h,rfl⟩
 ·simp only [VR];exact ⟨trivial,rfl⟩
 ·simp only [VR];exact ⟨trivial,rfl⟩
 ·cases h
theorem ZwI:∀{as:List AV} {vs:List Value},zsC as vs=true→VRL (fun _=>none) (fun _=>False) default as vs∧∀x,x∈vs→x.oneCell'=true
 | [],[],_=>⟨by simp only [VRL],fun x h=>by simp at h⟩
 | a::as,v::vs,h=>by
  simp only [zsC,Bool.and_eq_true] at h
  have h1:=zC_ok h.1
  have h2:=ZwI h.2
  refine ⟨by simp only [VRL];exact ⟨h1.1,h2.1⟩,fun x hx=>?_⟩
  cases hx with
  | head=>exact h1.2
  | tail _ hx=>exact h2.2 x hx
 | [],_::_,h=>by simp [zsC] at h
 | _::_,[],h=>by simp [zsC] at h
theorem cC_ok {a:AV} {v:Value} (h:cC a v=true):VRc (fun _=>False) default a v:=by
 unfold cC at h
 split at h
 ·simp only [Bool.and_eq_true,decide_eq_true_eq] at h
  simp only [VRc,VRs];rw [h.1,h.2]
 ·simp only [VRc,VRs];simp only [beq_iff_eq] at h;rw [h]
 ·simp only [VRc,VRs];exact Zmv h
 ·simp only [VRc];exact ⟨none,0,rfl,.inl rfl⟩
 ·cases h
theorem ZwU:∀{as:List AV} {vs:List Value},csC as vs=true→∀(f:Nat) (a:AV),as[f]? = some a→∃v,vs[f]? = some v∧VRc (fun _=>False) default a v
 | [],vs,_,f,a,hf=>by simp at hf
 | a::as,v::vs,h,0,b,hb=>by
  simp only [csC,Bool.and_eq_true] at h
  simp at hb;subst hb
  exact ⟨v,rfl,cC_ok h.1⟩
 | a::as,v::vs,h,f+1,b,hb=>by
  simp only [csC,Bool.and_eq_true] at h
  exact ZwU h.2 f b (by simpa using hb)
 | _::_,[],h,_,_,_=>by simp [csC] at h
theorem ZjZ {P:Program}:∀{l:List (Nat×TI)} (h:tisC P l=true) (t:Nat),Zto l t=Zoq∨tiC P t (Zto l t)=true
 | [],_,t=>.inl rfl
 | (n,x)::l,h,t=>by
  simp only [tisC,Bool.and_eq_true] at h
  simp only [Zto]
  cases hb:Nat.beq n t with
  | true=>right;have:=Nat.eq_of_beq_eq_true hb;subst this;exact h.1
  | false=>exact ZjZ h.2 t
def Zt0 (P:Program):List (Nat×TI)→Bool
 | []=>true
 | (t,x)::l=>(x.d.isOther||(x.d.isAgg||(match P.info? t with
  | some i=>match i.zero with
   | some z=>z.oneCell'
   | none=>true
  | none=>true)))&&Zt0 P l
def eqOf:List (Nat×FT)→Nat→Option FT
 | [],_=>none
 | (t,x)::l,n=>cond (Nat.beq t n) (some x) (eqOf l n)
def eqsC (P:Program):List (Nat×FT)→Bool
 | []=>true
 | (t,x)::l=>eqB P t x&&eqsC P l
theorem ZuV {P:Program}:∀{l:List (Nat×FT)},eqsC P l=true→∀t f,eqOf l t=some f→EqOk P t f
 | [],_,_,_,h=>by simp [eqOf] at h
 | (n,x)::l,hc,t,f,h=>by
  simp only [eqsC,Bool.and_eq_true] at hc
  simp only [eqOf] at h
  cases hb:Nat.beq n t with
  | true=>
   rw [hb] at h
   have:=Nat.eq_of_beq_eq_true hb
   subst this
   simp only [cond_true,Option.some.injEq] at h
   subst h
   exact Zxs hc.1
  | false=>rw [hb] at h;exact ZuV hc.2 t f h
theorem Zru {P:Program}:∀{l:List (Nat×TI)},Zt0 P l=true→∀t i z,(Zto l t).d.isOther=false→(Zto l t).d.isAgg=false→P.info? t=some i→i.zero=some z→z.oneCell'=true
 | [],_,t,_,_,h,_,_,_=>by simp [Zto,Zoq,TD.isOther] at h
 | (n,x)::l,hc,t,i,z,h1,h2,hi,hz=>by
  simp only [Zt0,Bool.and_eq_true] at hc
  simp only [Zto] at h1 h2
  cases hb:Nat.beq n t with
  | true=>
   rw [hb] at h1 h2
   have:=Nat.eq_of_beq_eq_true hb
   subst this
   simp only [cond_true] at h1 h2
   have:=hc.1
   rw [h1,h2,hi] at this
   simpa [hz] using this
  | false=>rw [hb] at h1 h2;exact Zru hc.2 t i z h1 h2 hi hz
theorem Zw1 {P:Program} {l:List (Nat×TI)} {q:List (Nat×FT)} {C:Ctx} (hC:C.ty=Zto l) (h:tisC P l=true) (hn:P.follows .mixedOrders=true) (hq:C.eqf=eqOf q) (he:eqsC P q=true) (ho1:Zt0 P l=true):Zgn P C:=by
 have none':∀{t},Zto l t=Zoq→(C.ty t)=Zoq:=fun e=>by rw [hC];exact e
 refine ⟨fun t=>?_,fun t ht=>?_,fun t f hf=>?_,hn,fun t f hf=>ZuV he t f (by rw [←hq];exact hf),fun t i z h1 h2 hi hz=>Zru ho1 t i z (by rw [←hC];exact h1) (by rw [←hC];exact h2) hi hz⟩
 ·rcases ZjZ h t with e | e
  ·rw [none' e];exact trivial
  ·rw [hC]
   simp only [tiC,Bool.and_eq_true] at e
   exact tdC_ok e.1.1
 ·rcases ZjZ h t with e | e
  ·rw [none' e] at ht;cases ht
  ·rw [hC] at ht ⊢
   simp only [tiC,Bool.and_eq_true,ht,Bool.false_or] at e
   obtain ⟨⟨_,e⟩,_⟩:=e
   split at e
   ·rename_i i hi
    split at e
    ·rename_i z hz
     simp only [Bool.and_eq_true,Nat.blt_eq] at e
     obtain ⟨⟨⟨⟨⟨⟨e1,e2⟩,e3⟩,e4⟩,e5⟩,e6⟩,e7⟩:=e
     have q:=ZwI e4
     refine ⟨i,z,hi,⟨Nat.eq_of_beq_eq_true e1,e2⟩,Nat.le_of_ble_eq_true e3,hz,q.1,q.2,Nat.eq_of_beq_eq_true e5,fun ha=>?_⟩
     rw [ha] at e6
     simpa using e6
    ·cases e
   ·cases e
 ·rcases ZjZ h t with e | e
  ·rw [none' e] at hf;cases hf
  ·rw [hC] at hf ⊢
   have ho:(Zto l t).d.isOther=false:=by
    simp only [tiC,Bool.and_eq_true] at e
    have:=e.2
    rw [hf] at this
    simpa using this
   simp only [tiC,Bool.and_eq_true,ho,Bool.false_or,hf] at e
   obtain ⟨⟨_,e⟩,_⟩:=e
   split at e
   ·rename_i i hi
    split at e
    ·rename_i z hz
     simp only [Bool.and_eq_true,Nat.blt_eq] at e
     obtain ⟨_,⟨e7,e8⟩,e9⟩:=e
     refine ⟨ho,Nat.eq_of_beq_eq_true e7,e8,fun i' z' hi' hz' k a ha=>?_⟩
     rw [hi] at hi';cases hi'
     rw [hz] at hz';cases hz'
     obtain ⟨v,hv,hr⟩:=ZwU e9 k a ha
     exact ⟨v,by rw [Nat.zero_add,←hv];simp,hr⟩
    ·cases e
   ·cases e
end Ev
end
section
namespace Ev
open Go
def gSc:(s:Sc)→s.T→Prop
 | .int k,n=>(Lit.int k n).wf=true
 | .bool,_=>True
 | .str,s=>s.length≤maxLen
 | .ints k,xs=>xs.length≤maxLen∧∀n,n∈xs→(Lit.int k n).wf=true
def gEl:(t:FT)→El t→Prop
 | [],_=>True
 | [s],x=>gSc s x
 | s::s'::r,x=>gSc s x.1∧gEl (s'::r) x.2
def scV (N:Nat→Prop) (w:World) (s:Sc) (v:Value):Prop:=∃x:s.T,gSc s x∧VRc N w (s.av x) v
def Zqd (N:Nat→Prop) (w:World):FT→List Value→Prop
 | [],[]=>True
 | s::t,v::vs=>scV N w s v∧Zqd N w t vs
 | _,_=>False
theorem Zqd.len {N:Nat→Prop} {w:World}:∀{t:FT} {vs:List Value},Zqd N w t vs→vs.length=t.length
 | [],[],_=>rfl
 | s::t,v::vs,h=>by simp [Zqd.len h.2]
 | [],_::_,h=>h.elim
 | _::_,[],h=>h.elim
theorem Zqd.append {N:Nat→Prop} {w:World}:∀{t u:FT} {vs us:List Value},Zqd N w t vs→Zqd N w u us→Zqd N w (t++u) (vs++us)
 | [],u,[],us,_,h=>h
 | s::t,u,v::vs,us,h,k=>⟨h.1,Zqd.append h.2 k⟩
 | [],_,_::_,_,h,_=>h.elim
 | _::_,_,[],_,h,_=>h.elim
theorem Zqd.elem {N:Nat→Prop} {w:World}:∀{t:FT} {vs:List Value},Zqd N w t vs→∃x:El t,gEl t x∧∀(f:Nat) (a:AV),(El.cells t x)[f]? = some a→∃v,vs[f]? = some v∧VRc N w a v
 | [],[],_=>⟨(),trivial,fun f a h=>by simp [El.cells] at h⟩
 | [s],[v],h=>by
  obtain ⟨x,hx,hv⟩:=h.1
  refine ⟨x,hx,fun f a ha=>?_⟩
  cases f with
  | zero=>simp [El.cells] at ha;subst ha;exact ⟨v,rfl,hv⟩
  | succ f=>simp [El.cells] at ha
 | s::s'::t,v::vs,h=>by
  obtain ⟨x,hx,hv⟩:=h.1
  obtain ⟨y,hy,hys⟩:=Zqd.elem (t:=s'::t) h.2
  refine ⟨(x,y),⟨hx,hy⟩,fun f a ha=>?_⟩
  cases f with
  | zero=>simp [El.cells] at ha;subst ha;exact ⟨v,rfl,hv⟩
  | succ f=>exact hys f a (by simpa [El.cells] using ha)
 | [],_::_,h=>h.elim
 | [_],[],h=>h.elim
 | [_],_::_::_,h=>h.2.elim
 | _::_::_,[],h=>h.elim
def ZpQ (P:Program) (g:TypeId→Option FT):List Field→Nat→Option FT
 | [],_=>some []
 | f::r,o=>match g f.type with
  | some t=>cond (Nat.beq f.offset o&&Nat.beq (P.cellsOf f.type) t.length) (match ZpQ P g r (o+t.length) with
   | some t'=>some (t++t')
   | none=>none) none
  | none=>none
def Zr7 (P:Program):Nat→TypeId→Option FT
 | 0,_=>none
 | n+1,t=>match P.underlying t with
  | some (.int k)=>some [.int k]
  | some .bool=>some [.bool]
  | some .string=>some [.str]
  | some (.slice e)=>match P.underlying e with
   | some (.int k)=>cond (Nat.beq (P.cellsOf e) 1) (some [.ints k]) none
   | _=>none
  | some (.struct fs)=>match ZpQ P (Zr7 P n) fs.toList 0 with
   | some t'=>cond (Nat.beq t'.length (P.cellsOf t)) (some t') none
   | none=>none
  | _=>none
theorem Zlj {P:Program} {g:TypeId→Option FT} {N:Nat→Prop} {w:World} {cs:List Value}:∀(fs:List Field) (o:Nat) (t:FT),ZpQ P g fs o=some t→
  (∀(i:Nat) (f:Field),fs[i]? = some f→∀tf,g f.type=some tf→Zqd N w tf ((cs.drop f.offset).take (P.cellsOf f.type)))→o+t.length=cs.length→Zqd N w t (cs.drop o)
 | [],o,t,H,hf,hl=>by
  simp only [ZpQ,Option.some.injEq] at H;subst H
  have:cs.drop o=[]:=List.drop_eq_nil_of_le (by simp at hl;omega)
  rw [this];trivial
 | f::fs,o,t,H,hf,hl=>by
  simp only [ZpQ] at H
  split at H
  ·rename_i tf htf
   cases hb:(Nat.beq f.offset o&&Nat.beq (P.cellsOf f.type) tf.length) with
   | false=>rw [hb] at H;simp at H
   | true=>
    rw [hb] at H
    simp only [cond_true] at H
    simp only [Bool.and_eq_true] at hb
    have e1:=Nat.eq_of_beq_eq_true hb.1
    have e2:=Nat.eq_of_beq_eq_true hb.2
    split at H
    ·rename_i t' ht'
     cases H
     have h1:=hf 0 f rfl tf htf
     rw [e1,e2] at h1
     have h2:=Zlj fs (o+tf.length) t' ht' (fun i f' hi=>hf (i+1) f' hi) (by simp at hl;omega)
     have:=h1.append h2
     rwa [←List.drop_drop,List.take_append_drop] at this
    ·cases H
  ·cases H
section
variable {H:Type} {enc:TypeId×Value→H} {P:Program} {w:World} {base:Nat} {spare:Nat→Bool} {held:Bool}
def ZgR (w:World) (b:Nat):Prop:=b<w.heap.size
theorem Zln {α:Type} {Q:Nat→α→Prop}:∀(n:Nat),(∀i,i<n→∃x,Q i x)→∃xs:List α,xs.length=n∧∀i x,xs[i]? = some x→Q i x
 | 0,_=>⟨[],rfl,fun i x h=>by simp at h⟩
 | n+1,h=>by
  obtain ⟨xs,hl,hx⟩:=Zln n fun i hi=>h i (by omega)
  obtain ⟨y,hy⟩:=h n (by omega)
  refine ⟨xs++[y],by simp [hl],fun i x hi=>?_⟩
  rcases Nat.lt_or_ge i n with q | q
  ·rw [List.getElem?_append_left (by omega)] at hi;exact hx i x hi
  ·rw [List.getElem?_append_right (by omega)] at hi
   have:i-xs.length=0:=by
    have:=(List.getElem?_eq_some_iff.1 hi).1
    simp at this;omega
   rw [this] at hi
   simp at hi
   have:i=n:=by omega
   subst this;subst hi;exact hy
theorem Zkf {a:Addr} {v:Value} (h:w.cell? a=some v):∃c T fz,w.heap[a.block]? = some (.cells c T fz)∧a.spot=none∧c[a.off]? = some v:=by
 unfold World.cell? at h
 split at h
 ·rename_i c T fz hc
  cases hs:a.spot with
  | none=>rw [hs] at h;exact ⟨c,T,fz,hc,rfl,by simpa using h⟩
  | some s=>rw [hs] at h;simp at h
 ·cases h
theorem Zmh {t e:TypeId} (ht:P.underlying t=some (.slice e)) {ft:FT} (hpos:0<ZaI ft) (hc:P.cellsOf e=ZaI ft)
  (hel:∀m cs y,DataW.trod enc P w base spare held m e cs=some y→Zqd (ZgR w) w ft cs) {fuel:Nat} {v:Value} {x:DataW H×List MemPlace}
  (h:DataW.trod enc P w base spare held fuel t [v]=some x):∃xs:List (El ft),RoG (VRc (ZgR w) w) (ZgR w) w ft xs v∧xs.length≤maxLen∧∀y,y∈xs→gEl ft y:=by
 rcases DataW.trod_slice ht h with ⟨h0,_⟩ | ⟨a,len,cap,elems,rest,n,_,hcs,_,_,hl,hm,hlen,hels,_,_⟩
 ·simp only [List.cons.injEq,and_true] at h0
  exact ⟨[],⟨none,0,h0,.inl rfl⟩,Nat.zero_le _,fun y hy=>by simp at hy⟩
 ·simp only [List.cons.injEq,and_true] at hcs
  subst hcs
  by_cases h0:len=0
  ·subst h0
   exact ⟨[],⟨some a,cap,rfl,.inl rfl⟩,Nat.zero_le _,fun y hy=>by simp at hy⟩
  ·have each:∀i,i<len→∃cs,cs.length=ZaI ft∧Zqd (ZgR w) w ft cs∧∀j,j<ZaI ft→w.cell? ((a.add (i*ZaI ft)).add j)=cs[j]?:=fun i hi=>by
    have he:=hels i hi
    rw [List.getElem?_eq_getElem (by omega:i<elems.length)] at he
    obtain ⟨cs,h1,h2⟩:=Option.bind_eq_some_iff.1 he
    have hv:=hel n cs _ h2
    have hln:=hv.len
    unfold World.cells? at h1
    split at h1
    ·refine ⟨cs,by rw [hln,Zbi],hv,fun j hj=>?_⟩
     have:=mapM_some_get h1 j j (by rw [List.getElem?_range];rw [hc];exact hj)
     rwa [hc] at this
    ·cases h1
   obtain ⟨cs0,l0,_,g0⟩:=each 0 (by omega)
   have c0:=g0 0 hpos
   rw [List.getElem?_eq_getElem (by omega:0<cs0.length)] at c0
   rw [Nat.zero_mul] at c0
   have hadd:∀q:Addr,q.add 0=q:=fun q=>by simp [Addr.add]
   rw [hadd,hadd] at c0
   obtain ⟨c,T,fz,hheap,hspot,_⟩:=Zkf c0
   obtain ⟨b,o,sp⟩:=a
   dsimp only at hheap hspot
   subst hspot
   have hN:ZgR w b:=by
    unfold ZgR
    rcases Nat.lt_or_ge b w.heap.size with q | q
    ·exact q
    ·simp [Array.getElem?_eq_none q] at hheap
   obtain ⟨xs,hxl,hxs⟩:=Zln (Q:=fun i (y:El ft)=>gEl ft y∧Zbk (VRc (ZgR w) w) c (o+i*ZaI ft) (El.cells ft y)) len fun i hi=>by
    obtain ⟨cs,h1,h2,h3⟩:=each i hi
    obtain ⟨y,hy,hc'⟩:=h2.elem
    refine ⟨y,hy,fun f av hf=>?_⟩
    obtain ⟨u,hu,hr⟩:=hc' f av hf
    refine ⟨u,?_,hr⟩
    have hfl:f<ZaI ft:=by rw [←h1];exact (List.getElem?_eq_some_iff.1 hu).1
    have:=h3 f hfl
    rw [Addr.add_mid,Addr.add_mid,hu] at this
    obtain ⟨c',T',fz',e1,_,e3⟩:=Zkf this
    dsimp only at e1 e3
    rw [hheap] at e1;cases e1
    exact e3
   refine ⟨xs,⟨some ⟨b,o,none⟩,cap,by rw [hxl],.inr ⟨b,o,⟨rfl,by omega⟩,hN,c,T,fz,hheap,fun j y hj=>(hxs j y hj).2⟩⟩,by omega,fun y hy=>?_⟩
   obtain ⟨j,hj⟩:=List.getElem?_of_mem hy
   exact (hxs j y hj).1
theorem ZpP:∀(n:Nat) (e:TypeId) (ft:FT),Zr7 P n e=some ft→∀m cs y,DataW.trod enc P w base spare held m e cs=some y→Zqd (ZgR w) w ft cs
 | 0,e,ft,hf,_,_,_,_=>by simp [Zr7] at hf
 | n+1,e,ft,hf,m,cs,y,h=>by
  simp only [Zr7] at hf
  split at hf
  ·rename_i k hu
   cases hf
   obtain ⟨q,rfl,_,hw⟩:=DataW.trod_int hu h
   exact ⟨⟨q,hw,rfl⟩,trivial⟩
  ·rename_i hu
   cases hf
   obtain ⟨q,rfl,_⟩:=DataW.trod_bool hu h
   exact ⟨⟨q,trivial,rfl⟩,trivial⟩
  ·rename_i hu
   cases hf
   obtain ⟨q,rfl,_,hw⟩:=DataW.trod_string hu h
   exact ⟨⟨q.data.toList,by simpa [gSc] using hw,by simp only [Sc.av,VRc,VRs]⟩,trivial⟩
  ·rename_i e' hu
   split at hf
   ·rename_i k hk
    cases hb:Nat.beq (P.cellsOf e') 1 with
    | false=>rw [hb] at hf;simp at hf
    | true=>
     rw [hb] at hf
     cases hf
     have hce:=Nat.eq_of_beq_eq_true hb
     have one:∃v,cs=[v]:=by
      rcases DataW.trod_slice hu h with ⟨h0,_⟩ | ⟨a,len,cap,_,_,_,_,hcs,_⟩
      ·exact ⟨_,h0⟩
      ·exact ⟨_,hcs⟩
     obtain ⟨v,rfl⟩:=one
     obtain ⟨xs,h1,h2,h3⟩:=Zmh (ft:=[.int k]) hu (by simp [ZaI]) (by rw [hce];rfl) (fun m' cs' y' h'=>by
      obtain ⟨q,rfl,_,hw⟩:=DataW.trod_int hk h'
      exact ⟨⟨q,hw,rfl⟩,trivial⟩) h
     refine ⟨⟨xs,⟨h2,fun q hq=>h3 q hq⟩,?_⟩,trivial⟩
     simp only [Sc.av,VRc]
     obtain ⟨a,cap,rfl,hh⟩:=h1
     refine ⟨a,cap,rfl,hh.imp id ?_⟩
     rintro ⟨b,o,hab,hN,c,T,fz,hheap,hx⟩
     refine ⟨b,o,hab,hN,c,T,fz,hheap,fun j y hj f av hf=>?_⟩
     obtain ⟨u,hu',hr⟩:=hx j y hj f av hf
     refine ⟨u,hu',?_⟩
     have:av=.int k y:=by
      cases f with
      | zero=>simpa [El.cells,Sc.av] using hf.symm
      | succ f=>simp [El.cells] at hf
     subst this
     exact hr
   ·cases hf
  ·rename_i fs hu
   split at hf
   ·rename_i t' ht'
    cases hb:Nat.beq t'.length (P.cellsOf e) with
    | false=>rw [hb] at hf;simp at hf
    | true=>
     rw [hb] at hf
     cases hf
     have hlen:=Nat.eq_of_beq_eq_true hb
     obtain ⟨xs,n',_,_,hl,hxl,hfd⟩:=DataW.trod_struct hu h
     have:=Zlj (N:=ZgR w) (w:=w) (cs:=cs) fs.toList 0 ft ht' (fun i f hi tf htf=>by
      have hi':fs[i]? = some f:=by simpa using hi
      have hx:=hfd i f hi'
      have hil:i<xs.length:=by rw [hxl];exact (Array.getElem?_eq_some_iff.1 hi').1
      rw [List.getElem?_eq_getElem hil] at hx
      exact ZpP n f.type tf htf n' _ _ hx) (by omega)
     simpa using this
   ·cases hf
  ·cases hf
end
def Zsp (C:Ctx) (w:World):Prop:=∀g,C.glob g≠[]→ZgR w g∧∃c T fz,w.heap[g]? = some (.cells c T fz)∧Zq9 (fun a v=>VRc (ZgR w) w a v∧v.oneCell'=true) c (C.glob g)
theorem ZuW {P:Program} {C:Ctx} (w:World) (hg:Zsp C w):Zcd ⟨P,C,w,ZgR w⟩ (fun _=>none) (ZgR w) (ZcR []) w:=by
 have dead:∀i,ZcR [] i=.dead:=fun i=>by cases i<;>rfl
 exact ⟨fun i h=>absurd (dead i) h,fun i j b _ h=>absurd (dead i) h,fun b h=>h,fun b h=>h,⟨rfl,rfl,rfl,Nat.le_refl _,fun _ _=>rfl⟩,hg⟩
theorem Zuo {P:Program} {C:Ctx} {H:Hnd} {f:Nat} {fn:Func} {ann:Ann} {keep:Nat} {sargs:List Tp} {ids:List DT} {F:Den ids→Option Bool} (T:Zgn P C) (hH:ZjV P C H)
  (hf:P.funcs[f]? = some fn) (hb:fn.body.isNone=false) (hwf:(ZaT.mk keep sargs [] ids ⟨[.bool],.sc .bool,[]⟩ F).wf=true)
  (hev:∀d,Zbb C H fn ann (ZaT.mk keep sargs [] ids ⟨[.bool],.sc .bool,[]⟩ F) d=F d) (d:Den ids) (hF:F d=some true) (w:World) (hg:Zsp C w) (vs:Array Value) (args:List AV)
  (hinsts:(Tp.insts (fun j=>j) sargs (Den.list ids d)).1=args) (hv:VRL (fun _=>none) (ZgR w) w args vs.toList) :
  Calls P f vs w fun e w'=>e=.returned (.bool true)∧Go.RowKit.Below w.heap.size w w':=by
 have h:=(hev d).trans hF
 obtain ⟨l,hl⟩:∃l,Tp.insts (fun j=>j) sargs (Den.list ids d)=(args,l):=⟨_,by rw [←hinsts]⟩
 refine (ZlD T hH hf hb hwf d true h ⟨P,C,w,ZgR w⟩ rfl rfl (fun _=>none) (ZgR w) w vs args l hl hv (ZuW w hg) (fun _ _=>rfl)).mono ?_
 rintro e w' ⟨val,rfl,ι',N',v,l',h1,h2,R,_,G⟩
 simp only [Den.list,Tp.inst,Prod.mk.injEq] at h1
 obtain ⟨rfl,rfl⟩:=h1
 simp only [Dat.av,VR] at h2
 subst h2
 exact ⟨rfl,R.pres.os,R.pres.tape,R.pres.output,R.pres.size,fun k hk=>R.pres.mem k hk⟩
end Ev
end
section
namespace Ev
open Go Go.ChangeShapes Go.WideShapes Go.ChangeMaps
theorem Zxx {x:Int} (h:(Lit.int .u8 x).wf=true):0≤x∧x≤255:=by
 have:=(Lit.wf_int_iff _ _).1 h
 simpa [IntKind.min,IntKind.max,IntKind.signed,IntKind.bits] using this
end Ev
end
section
namespace Ev
open Go
section
variable {H:Type} {enc:TypeId×Value→H} {P:Program} {w:World} {base:Nat} {spare:Nat→Bool} {held:Bool}
theorem Zxm {t e:TypeId} (s:Sc) (f:s.T→DataW H) (ht:P.underlying t=some (.slice e)) (hc:P.cellsOf e=1)
  (hel:∀m cs y q,DataW.trod enc P w base spare held m e cs=some (f y,q)→∃u,cs=[u]∧VRc (ZgR w) w (s.av y) u) {fuel:Nat} {v:Value} {xs:List s.T} {sp:List (DataW H)} {ps:List MemPlace}
  (h:DataW.trod enc P w base spare held fuel t [v]=some (.slice (xs.map f) sp,ps)):RoG (VRc (ZgR w) w) (ZgR w) w [s] xs v:=by
 rcases DataW.trod_slice ht h with ⟨_,h0⟩ | ⟨a,len,cap,elems,rest,n,_,hcs,hx,_,hl,hm,hlen,hels,_,_⟩
 ·simp at h0
 ·simp only [List.cons.injEq,and_true] at hcs
  subst hcs
  simp only [Prod.mk.injEq,DataW.slice.injEq] at hx
  obtain ⟨⟨hx,_⟩,_⟩:=hx
  have hxl:xs.length=elems.length:=by have:=congrArg List.length hx;simpa using this
  by_cases h0:len=0
  ·subst h0
   have:xs=[]:=List.length_eq_zero_iff.1 (by omega)
   subst this
   exact ⟨some a,cap,rfl,.inl rfl⟩
  ·have each:∀i y,xs[i]? = some y→∃u,VRc (ZgR w) w (s.av y) u∧w.cell? (a.add i)=some u:=fun i y hi=>by
    have hil:i<xs.length:=(List.getElem?_eq_some_iff.1 hi).1
    have he:=hels i (by omega)
    rw [List.getElem?_eq_getElem (by omega:i<elems.length)] at he
    obtain ⟨cs,h1,h2⟩:=Option.bind_eq_some_iff.1 he
    have hf:(elems[i]'(by omega)).1=f y:=by
     have:=congrArg (fun l=>l[i]?) hx
     simp only [List.getElem?_map,hi,List.getElem?_eq_getElem (by omega:i<elems.length),Option.map_some,Option.some.injEq] at this
     exact this.symm
    obtain ⟨u,rfl,hu⟩:=hel n cs y (elems[i]'(by omega)).2 (by rw [h2,←hf])
    refine ⟨u,hu,?_⟩
    unfold World.cells? at h1
    split at h1
    ·have:=mapM_some_get h1 0 0 (by rw [List.getElem?_range];rw [hc];omega)
     rw [hc,Nat.mul_one] at this
     have hadd:∀q:Addr,q.add 0=q:=fun q=>by simp [Addr.add]
     rw [hadd] at this
     simpa using this
    ·cases h1
   obtain ⟨y0,hy0⟩:∃y,xs[0]? = some y:=⟨xs[0]'(by omega),List.getElem?_eq_getElem (by omega)⟩
   obtain ⟨u0,_,c0⟩:=each 0 y0 hy0
   have hadd:∀q:Addr,q.add 0=q:=fun q=>by simp [Addr.add]
   rw [hadd] at c0
   obtain ⟨c,T,fz,hheap,hspot,_⟩:=Zkf c0
   obtain ⟨b,o,sp'⟩:=a
   dsimp only at hheap hspot
   subst hspot
   have hN:ZgR w b:=by
    unfold ZgR
    rcases Nat.lt_or_ge b w.heap.size with q | q
    ·exact q
    ·simp [Array.getElem?_eq_none q] at hheap
   refine ⟨some ⟨b,o,none⟩,cap,by rw [hxl,hlen],.inr ⟨b,o,⟨rfl,by omega⟩,hN,c,T,fz,hheap,fun j y hj f' av hf=>?_⟩⟩
   obtain ⟨u,hu,hcell⟩:=each j y hj
   rw [Addr.add_mid] at hcell
   obtain ⟨c',T',fz',e1,_,e3⟩:=Zkf hcell
   dsimp only at e1 e3
   rw [hheap] at e1;cases e1
   cases f' with
   | zero=>
    have:av=s.av y:=by simpa [El.cells] using hf.symm
    subst this
    exact ⟨u,by simpa [ZaI] using e3,hu⟩
   | succ f'=>simp [El.cells] at hf
theorem Zup {t e:TypeId} {k:IntKind} (ht:P.underlying t=some (.slice e)) (he:P.underlying e=some (.int k)) (hc:P.cellsOf e=1) {fuel:Nat} {v:Value} {xs:List Int} {sp:List (DataW H)} {ps:List MemPlace}
  (h:DataW.trod enc P w base spare held fuel t [v]=some (.slice (xs.map fun n=>.lit (.int k n)) sp,ps)):RoG (VRc (ZgR w) w) (ZgR w) w [.int k] xs v:=
 Zxm (.int k) (fun n=>.lit (.int k n)) ht hc (fun m cs y q h'=>by
  obtain ⟨n,rfl,hx,_⟩:=DataW.trod_int he h'
  simp only [Prod.mk.injEq,DataW.lit.injEq,Lit.int.injEq,true_and] at hx
  obtain ⟨rfl,_⟩:=hx
  exact ⟨_,rfl,rfl⟩) h
end
theorem ZqN {P:Program} {w:World}:∀{laid:List (String×DataW Unit)} {ps:List MemPlace},DataW.LaidVars P w laid ps→∀{n:String} {d:DataW Unit},(n,d)∈laid→
  ∃g t cs fuel p,P.globalNamed n=some g∧(P.globals[g]?).map (·.type)=some t∧w.var? P n=some cs∧DataW.trod (fun _=>()) P w 0 (fun _=>true) false fuel t cs.toList=some (d,p)
 | [],_,_,n,d,hm=>by cases hm
 | (n',d')::r,ps,h,n,d,hm=>by
  obtain ⟨g,t,cs,fuel,p,q,h1,h2,h3,h4,h5,_⟩:=h
  rcases List.mem_cons.1 hm with e | hm
  ·cases e;exact ⟨g,t,cs,fuel,p,h1,h2,h3,h4⟩
  ·exact ZqN h5 hm
theorem Zoo {P:Program} {w:World} {n:String} {g:Nat} {cs:Array Value} (hg:P.globalNamed n=some g) (h:w.var? P n=some cs):∃T fz,w.heap[g]? = some (.cells cs T fz):=by
 unfold World.var? at h
 rw [hg] at h
 simp only [Option.bind_some] at h
 split at h
 ·rename_i cs' T fz e
  cases h;exact ⟨T,fz,e⟩
 ·cases h
def Znk (w:World) (g:Nat) (avs:List AV):Prop:=ZgR w g∧∃c T fz,w.heap[g]? = some (.cells c T fz)∧Zq9 (fun a v=>VRc (ZgR w) w a v∧v.oneCell'=true) c avs
theorem Zs7 {P:Program} {w:World} {laid:List (String×DataW Unit)} (hL:laidMet P laid w) {n:String} {s:Sc} {xs:List s.T} {f:s.T→DataW Unit} (hm:(n,DataW.slice (xs.map f) [])∈laid) {g:Nat} {t e:TypeId}
  (hg:P.globalNamed n=some g) (hgt:(P.globals[g]?).map (·.type)=some t) (ht:P.underlying t=some (.slice e))
  (hs:∀y u,VRc (ZgR w) w (s.av y) u→VRs (s.av y) u) (hro:∀fuel v ps,DataW.trod (fun _=>()) P w 0 (fun _=>true) false fuel t [v]=some (.slice (xs.map f) [],ps)→RoG (VRc (ZgR w) w) (ZgR w) w [s] xs v):Znk w g [.ro [s] xs]:=by
 obtain ⟨ps,hV,_⟩:=hL
 obtain ⟨g',t',cs,fuel,p,h1,h2,h3,h4⟩:=ZqN hV hm
 rw [hg] at h1;cases h1
 rw [hgt] at h2;cases h2
 obtain ⟨T,fz,hh⟩:=Zoo hg h3
 have one:∃a len cap,cs.toList=[.slice a len cap]:=by
  rcases DataW.trod_slice ht h4 with ⟨h0,_⟩ | ⟨a,len,cap,_,_,_,_,hcs,_⟩
  ·exact ⟨_,_,_,h0⟩
  ·exact ⟨_,_,_,hcs⟩
 obtain ⟨a,len,cap,hcs⟩:=one
 rw [hcs] at h4
 have hr:=hro _ _ _ h4
 have hcs':cs= #[.slice a len cap]:=by cases cs;simp at hcs;subst hcs;rfl
 refine ⟨?_,cs,T,fz,hh,by rw [hcs'];rfl,fun i av hi=>?_⟩
 ·unfold ZgR
  rcases Nat.lt_or_ge g w.heap.size with q | q
  ·exact q
  ·simp [Array.getElem?_eq_none q] at hh
 ·cases i with
  | zero=>
   have:av=.ro [s] xs:=by simpa using hi.symm
   subst this
   refine ⟨.slice a len cap,?_,?_,rfl⟩
   ·have:cs= #[.slice a len cap]:=by cases cs;simp at hcs;subst hcs;rfl
    rw [this];rfl
   ·simp only [VRc]
    obtain ⟨a',cap',e,hh'⟩:=hr
    refine ⟨a',cap',e,hh'.imp id ?_⟩
    rintro ⟨b,o,hab,hN,c,T,fz,hheap,hx⟩
    refine ⟨b,o,hab,hN,c,T,fz,hheap,fun j y hj f av hf=>?_⟩
    obtain ⟨u,hu',hr⟩:=hx j y hj f av hf
    refine ⟨u,hu',?_⟩
    cases f with
    | zero=>
     have:av=s.av y:=by simpa [El.cells] using hf.symm
     subst this
     exact hs y u hr
    | succ f=>simp [El.cells] at hf
  | succ i=>simp at hi
theorem Zrz {k:IntKind}:∀{xs:List Int} {cs:List Value},cs.length=xs.length→(∀(i:Nat) (n:Int),xs[i]? = some n→cs[i]? = some (Value.int k n))→cs=xs.map fun n=>Value.int k n
 | [],[],_,_=>rfl
 | x::xs,c::cs,hl,h=>by
  have h0:=h 0 x rfl
  have ih:=Zrz (xs:=xs) (cs:=cs) (by simpa using hl) (fun i n hi=>by simpa using h (i+1) n (by simpa using hi))
  have:c=.int k x:=by simpa using h0
  rw [this,ih];rfl
 | [],_::_,hl,_=>by simp at hl
 | _::_,[],hl,_=>by simp at hl
theorem Zs6 {w:World} {k:IntKind} {g:Nat} {cs:Array Value} {T:TypeId} {fz:Nat×Nat} (hh:w.heap[g]? = some (.cells cs T fz)) {xs:List Int} (hcs:cs.toList=xs.map fun n=>Value.int k n):Znk w g (xs.map fun n=>AV.int k n):=by
 refine ⟨?_,cs,T,fz,hh,?_,fun i av hi=>?_⟩
 ·unfold ZgR
  rcases Nat.lt_or_ge g w.heap.size with q | q
  ·exact q
  ·simp [Array.getElem?_eq_none q] at hh
 ·have:=congrArg List.length hcs;simpa using this
 ·rw [List.getElem?_map] at hi
  cases hx:xs[i]? with
  | none=>rw [hx] at hi;cases hi
  | some n=>
   rw [hx] at hi
   have:av=.int k n:=by simpa using hi.symm
   subst this
   refine ⟨.int k n,?_,rfl,rfl⟩
   have:=congrArg (·[i]?) hcs
   simp only [List.getElem?_map,hx,Option.map_some,Array.getElem?_toList] at this
   simpa using this
theorem Zwk {P:Program} {w:World} {laid:List (String×DataW Unit)} (hL:laidMet P laid w) {n:String} {k:IntKind} {xs:List Int} (hm:(n,DataW.agg (xs.map fun x=>.lit (.int k x)))∈laid) {g m:Nat} {t e:TypeId}
  (hg:P.globalNamed n=some g) (hgt:(P.globals[g]?).map (·.type)=some t) (ht:P.underlying t=some (.array m e)) (he:P.underlying e=some (.int k)) (hce:P.cellsOf e=1) (hct:P.cellsOf t=m):Znk w g (xs.map fun x=>AV.int k x):=by
 obtain ⟨ps,hV,_⟩:=hL
 obtain ⟨g',t',cs,fuel,p,h1,h2,h3,h4⟩:=ZqN hV hm
 rw [hg] at h1;cases h1
 rw [hgt] at h2;cases h2
 obtain ⟨T,fz,hh⟩:=Zoo hg h3
 obtain ⟨ys,f',_,hx,hlen,hyl,hel⟩:=DataW.trod_array ht h4
 simp only [Prod.mk.injEq,DataW.agg.injEq] at hx
 have hxl:xs.length=ys.length:=by have:=congrArg List.length hx.1;simpa using this
 refine Zs6 hh (Zrz (by rw [hlen,hct];omega) fun i v hi=>?_)
 have hil:i<xs.length:=(List.getElem?_eq_some_iff.1 hi).1
 have hy:=hel i (by omega)
 rw [hce,Nat.mul_one,List.getElem?_eq_getElem (by omega:i<ys.length)] at hy
 obtain ⟨q,e1,e2,_⟩:=DataW.trod_int he hy
 have e3:=congrArg (·[i]?) hx.1
 simp only [List.getElem?_map,hi,List.getElem?_eq_getElem (by omega:i<ys.length),Option.map_some,Option.some.injEq] at e3
 rw [e2] at e3
 simp only [DataW.lit.injEq,Lit.int.injEq,true_and] at e3
 subst e3
 have:=congrArg (·[0]?) e1
 simpa using this
end Ev
end
section
namespace Ev
open Go Go.ChangeShapes Go.WideShapes
def ZpI:List (Nat×List AV)→Nat→List AV
 | [],_=>[]
 | (g,l)::r,n=>cond (Nat.beq g n) l (ZpI r n)
theorem ZpH {w:World}:∀{l:List (Nat×List AV)},(∀p∈l,Znk w p.1 p.2)→∀g,ZpI l g≠[]→Znk w g (ZpI l g)
 | [],_,g,h=>absurd rfl h
 | (g',a)::r,hl,g,h=>by
  unfold ZpI at h ⊢
  cases hb:Nat.beq g' g with
  | true=>
   have:=Nat.eq_of_beq_eq_true hb
   subst this
   exact hl _ (List.mem_cons_self ..)
  | false=>
   rw [hb] at h
   exact ZpH (fun p hp=>hl p (List.mem_cons_of_mem _ hp)) g h
theorem Zrd {H:Type} {enc:TypeId×Value→H} {P:Program} {w:World} {sp:Nat→Bool}:∀{ns:List String} {gs:List (DataW H)} {ps:List MemPlace},DataW.TrodVars enc P w sp ns gs ps→gs.length=ns.length
 | [],[],_,_=>rfl
 | [],_::_,_,h=>h.elim
 | _::_,[],_,h=>h.elim
 | n::ns,d::ds,ps,h=>by
  obtain ⟨g,t,cs,fuel,p,q,h1,h2,h3,h4,hs,e⟩:=h
  rw [List.length_cons,List.length_cons,Zrd hs]
theorem ZuM {P:Program} {w:World} {laid:List (String×DataW Unit)} (hL:laidMet P laid w) {n:String} {k:IntKind} {xs:List Int} (hm:(n,DataW.slice (xs.map fun x=>.lit (.int k x)) [])∈laid) {g:Nat} {t e:TypeId}
  (hg:P.globalNamed n=some g) (hgt:(P.globals[g]?).map (·.type)=some t) (ht:P.underlying t=some (.slice e)) (he:P.underlying e=some (.int k)) (hc:P.cellsOf e=1):Znk w g [.ro [.int k] xs]:=
 Zs7 (s:=.int k) (xs:=xs) hL hm hg hgt ht (fun _ _ h=>h) fun _ _ _ h=>Zup ht he hc h
end Ev
end
section
namespace Ev
open Go
def idxB (s:Str) (c:Int):Int:=firstIdx ⟨s.toArray⟩ c.toNat.toUInt8
def Zie:ZaT:=⟨0,[.sc .str,.sc (.int .u8)],[],[.str,.int .u8],⟨[.int .i64],.sc (.int .i64),[]⟩,fun (s,c)=>some (idxB s c)⟩
theorem Zkv {P:Program} {C:Ctx} {f:Nat} {sargs:List Tp} {ids:List DT} {k:IntKind} {F:Den ids→Option Int}
  (h:∀(d:Den ids) (r:Int),F d=some r→∀(ι:Nat→Option Value) (N:Nat→Prop) (w:World) (vs:Array Value),VRL ι N w (Tp.insts (fun j=>j) sargs (Den.list ids d)).1 vs.toList→
   (callFunc f vs).run P w=.ok (.value (.int k r)) w):Zah P C f ⟨0,sargs,[],ids,⟨[.int k],.sc (.int k),[]⟩,F⟩:=by
 refine ⟨by simp [ZaT.wf,Tp.fit,OT.fits,Nat.ble],fun d r hF E eP eC ι N w vs args l hinsts hv R new=>?_⟩
 subst eP eC
 have hrun:=h d r hF ι N w vs (by rw [hinsts];exact hv)
 refine .inl ⟨.int k r,w,.inl hrun,ι,N,.int k r,[],rfl,by simp only [VR],?_,new,.refl _ _ _ _ _⟩
 refine ⟨fun i hi=>?_,fun i j b e hi=>?_,R.nlt,R.klt,R.pres,R.glob⟩
 ·cases i<;>simp [OT.insts,ZcR] at hi
 ·cases i<;>simp [OT.insts,ZcR] at hi
theorem Zk7 {P:Program} {C:Ctx} {f:Nat} {fn:Func} (hf:P.funcs[f]? = some fn) (hname:(fn.name == "runtime.NumGoroutine")=false) (hb:fn.body.isNone=true) (hn:Extern.findNext fn=none)
  (he:Extern.find fn=some Extern.BytealgIndexByte.indexByte):Zah P C f Zie:=by
 refine Zkv fun d r hF ι N w vs hv=>?_
 obtain ⟨s,c⟩:=d
 cases hF
 simp only [Den.list,Tp.insts,Tp.inst,Dat.av] at hv
 have hvs:vs= #[.string ⟨s.toArray⟩,.int .u8 c]:=by
  obtain ⟨l⟩:=vs
  dsimp only at hv
  match l,hv with
  | [a,b],hv=>simp only [VRL,VR] at hv;rw [hv.1,hv.2.1]
  | [],hv=>simp [VRL] at hv
  | [_],hv=>simp [VRL] at hv
  | _::_::_::_,hv=>simp [VRL] at hv
 subst hvs
 rw [run_callFunc_extern hf hname hb hn he,run_indexByte_string]
 rfl
def cntB (s:Str) (c:Int):Int:=(⟨s.toArray⟩:ByteArray).foldl (fun (n:Int) x=>if x==c.toNat.toUInt8 then n+1 else n) 0
def Ziq:ZaT:=⟨0,[.sc .str,.sc (.int .u8)],[],[.str,.int .u8],⟨[.int .i64],.sc (.int .i64),[]⟩,fun (s,c)=>some (cntB s c)⟩
theorem ZjT {P:Program} (s:ByteArray) (c:Int) (w:World) :
  (Extern.BytealgCount.count #[.string s,.int .u8 c]).run P w=.ok (.int .i64 (s.foldl (fun (n:Int) x=>if x==c.toNat.toUInt8 then n+1 else n) 0)) w:=by
 change Sem.run P (do
  let b ←Extern.Bytes.bytesOf (.string s)
  let c' ←Extern.Bytes.asByte (.int .u8 c)
  pure (goInt (b.foldl (fun (n:Int) x=>if x==c' then n+1 else n) ((0:Nat):Int)))) w=_
 simp only [Extern.Bytes.bytesOf,Extern.Bytes.asByte,Sem.run_bind,Sem.run_pure,Result.andThen]
 rfl
theorem ZlA {P:Program} {C:Ctx} {f:Nat} {fn:Func} (hf:P.funcs[f]? = some fn) (hname:(fn.name == "runtime.NumGoroutine")=false) (hb:fn.body.isNone=true) (hn:Extern.findNext fn=none)
  (he:Extern.find fn=some Extern.BytealgCount.count):Zah P C f Ziq:=by
 refine Zkv fun d r hF ι N w vs hv=>?_
 obtain ⟨s,c⟩:=d
 cases hF
 simp only [Den.list,Tp.insts,Tp.inst,Dat.av] at hv
 have hvs:vs= #[.string ⟨s.toArray⟩,.int .u8 c]:=by
  obtain ⟨l⟩:=vs
  dsimp only at hv
  match l,hv with
  | [a,b],hv=>simp only [VRL,VR] at hv;rw [hv.1,hv.2.1]
  | [],hv=>simp [VRL] at hv
  | [_],hv=>simp [VRL] at hv
  | _::_::_::_,hv=>simp [VRL] at hv
 subst hvs
 rw [run_callFunc_extern hf hname hb hn he,ZjT]
 rfl
def ZxE (P:Program) (C:Ctx):List (Nat×ZaT)→Prop
 | []=>True
 | (i,s)::r=>Zah P C i s∧ZxE P C r
theorem Zqq {P:Program} {C:Ctx}:∀{l:List (Nat×ZaT)},ZxE P C l→∀f S,S∈tab l f→Zah P C f S
 | [],_,f,S,h=>by simp [tab] at h
 | (i,s)::r,h,f,S,hm=>by
  simp only [tab] at hm
  cases hb:Nat.beq i f with
  | true=>
   rw [hb] at hm
   have:=Nat.eq_of_beq_eq_true hb
   subst this
   cases hm with
   | head=>exact h.1
   | tail _ hm=>exact Zqq h.2 i S hm
  | false=>rw [hb] at hm;exact Zqq h.2 f S hm
theorem Zaj {P:Program} {C:Ctx} {l:List (Nat×ZaT)} (h:ZxE P C l):ZjV P C (hnd (tab l)):=hnd_ok (Zqq h)
end Ev
end
section
namespace Ev
open Go
theorem w64_eq (n:Int):w64 n=(n+9223372036854775808)%18446744073709551616-9223372036854775808:=IntKind.wrap_i64 n
theorem Zaf {n:Int} (h1:-9223372036854775808≤n) (h2:n≤9223372036854775807):w64 n=n:=by rw [w64_eq];omega
theorem Zab {α:Type} {b:Bool} (x:Option α) (h:b=true):need b x=x:=by subst h;rfl
theorem Zfa {n:Nat} (h:n≤1099511627776):fits n=true:=by unfold fits LIM;exact Nat.ble_eq_true_of_le h
theorem ZaZ {i n:Nat} (h:i<n):decide ((i:Int)<(n:Int))=true:=decide_eq_true (by omega)
theorem Za0 {i n:Nat} (h:n≤i):decide ((i:Int)<(n:Int))=false:=decide_eq_false (by omega)
theorem Zav {i n:Nat} (h:i<n):(decide ((0:Int)≤(i:Int))&&decide ((i:Int)<(n:Int)))=true:=by simp;omega
theorem Zif {i n:Nat} (h:i≤n):(decide ((0:Int)≤(i:Int))&&decide ((i:Int)≤(n:Int)))=true:=by simp;omega
theorem Zdc {i:Nat} (h:i<9223372036854775807):w64 ((i:Int)+1)=((i+1:Nat):Int):=by rw [Zaf]<;>omega
theorem ZaJ (n:Nat):((n:Int)-(0:Int)).toNat+1=n+1:=by omega
end Ev
end

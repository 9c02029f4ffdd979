/- Plain laws about what the functions compute. Conditions: as stated. -/
import Derived.KernelRfl
import Derived.Test.YtiphcamiidggcaaGreatDoorYGP0
set_option linter.unusedVariables false
set_option linter.unusedSimpArgs false
section
namespace Ev
open Go
def Ret {α:Type} (x:Option α) (Q:α→Prop):Prop:=∃a,x=some a∧Q a
theorem Ret.pure {α:Type} {a:α} {Q:α→Prop} (h:Q a):Ret (some a) Q:=⟨a,rfl,h⟩
theorem Ret.of {α:Type} {x:Option α} {a:α} {Q:α→Prop} (e:x=some a) (h:Q a):Ret x Q:=⟨a,e,h⟩
theorem Ret.mono {α:Type} {x:Option α} {P Q:α→Prop} (h:Ret x P) (k:∀a,P a→Q a):Ret x Q:=by
 obtain ⟨a,e,q⟩:=h;exact ⟨a,e,k a q⟩
theorem Ret.bind {α β:Type} {x:Option α} {f:α→Option β} {P:α→Prop} {Q:β→Prop} (h:Ret x P) (k:∀a,P a→Ret (f a) Q):Ret (x.bind f) Q:=by
 obtain ⟨a,rfl,q⟩:=h;exact k a q
theorem Ret.need {α:Type} {b:Bool} {x:Option α} {Q:α→Prop} (h:b=true) (k:Ret x Q):Ret (Ev.need b x) Q:=by subst h;exact k
theorem Ret.cond {α:Type} {b:Bool} {x y:Option α} {Q:α→Prop} (h1:b=true→Ret x Q) (h0:b=false→Ret y Q):Ret (bif b then x else y) Q:=by
 cases b
 ·exact h0 rfl
 ·exact h1 rfl
theorem Ret.ite {α:Type} {p:Prop} [Decidable p] {x y:Option α} {Q:α→Prop} (h1:p→Ret x Q) (h0:¬p→Ret y Q):Ret (if p then x else y) Q:=by
 by_cases h:p
 ·rw [if_pos h];exact h1 h
 ·rw [if_neg h];exact h0 h
theorem Ret.map {α β:Type} {x:Option α} {f:α→β} {Q:β→Prop} (h:Ret x (fun a=>Q (f a))):Ret (x.map f) Q:=by
 obtain ⟨a,rfl,q⟩:=h;exact ⟨f a,rfl,q⟩
theorem Ret.loop {T σ:Type} {step:(T→Option σ)→T→Option σ} (Inv:T→Prop) (μ:T→Nat) (Q:T→σ→Prop)
  (h:∀again t,Inv t→(∀t',Inv t'→μ t'<μ t→Ret (again t') (Q t'))→Ret (step again t) (Q t)):∀n t,Inv t→μ t<n→Ret (ZaA step n t) (Q t)
 | 0,_,_,hn=>absurd hn (Nat.not_lt_zero _)
 | n+1,t,hi,hn=>h _ t hi fun t' hi' hm=>Ret.loop Inv μ Q h n t' hi' (by omega)
theorem Zwu {T σ:Type} {step:(T→Option σ)→T→Option σ} (Inv:T→Prop) (μ:T→Nat) (g:T→σ)
  (h:∀again t,Inv t→(∀t',Inv t'→μ t'<μ t→again t'=some (g t'))→step again t=some (g t)):∀n t,Inv t→μ t<n→ZaA step n t=some (g t)
 | 0,_,_,hn=>absurd hn (Nat.not_lt_zero _)
 | n+1,t,hi,hn=>h _ t hi fun t' hi' hm=>Zwu Inv μ g h n t' hi' (by omega)
theorem Zam {α:Type} {p q:Prop} [Decidable p] [Decidable q] {x:Option α} (hp:p) (hq:q):need (decide p&&decide q) x=x:=Zab _ (by simp [hp,hq])
theorem Zal {α:Type} {p:Prop} [Decidable p] {x:Option α} (hp:p):need (decide p) x=x:=Zab _ (by simp [hp])
theorem Zaj {α:Type} {p:Prop} [Decidable p] {x:Option α} {n:Nat} (hp:p) (hn:n≤1099511627776):need (decide p&&fits n) x=x:=Zab _ (by simp [hp,ZeR hn])
theorem Zad {α:Type} {n:Nat} {x:Option α} (h:n≤1099511627776):need (fits n) x=x:=Zab _ (ZeR h)
theorem Zaq {α:Type} {a b:Int} {x:Option α} (h:a≠b):need (a != b) x=x:=Zab _ (by simp [h])
theorem ZaI {α:Type} {x:Option α}:need true x=x:=rfl
theorem Za9 {α:Type} (p:Prop) [Decidable p] (x y:α):(bif decide p then x else y)=if p then x else y:=by
 by_cases h:p<;>simp [h]
theorem Zc7 {α β:Type} [BEq β] [LawfulBEq β] [DecidableEq β] (a b:β) (x y:α):(bif a==b then x else y)=if a=b then x else y:=by
 by_cases h:a=b
 ·simp [h]
 ·rw [if_neg h,beq_false_of_ne h];rfl
theorem Zc9 {α β:Type} [BEq β] [LawfulBEq β] [DecidableEq β] (a b:β) (x y:α):(bif a != b then x else y)=if a=b then y else x:=by
 by_cases h:a=b
 ·simp [h]
 ·rw [if_neg h,bne,beq_false_of_ne h];rfl
theorem Zbj {α:Type} (b:Bool) (x y:α):(bif !b then x else y)=bif b then y else x:=by cases b<;>rfl
theorem Zar {α:Type} (p:Prop) [Decidable p] (x y:α):(bif !decide p then x else y)=if p then y else x:=by
 by_cases h:p<;>simp [h]
theorem Zaw {a b:Int} (h:0≤a):a.tmod b=a%b:=Int.tmod_eq_emod_of_nonneg h
theorem Zav {a b:Int} (h:0≤a):a.tdiv b=a/b:=Int.tdiv_eq_ediv_of_nonneg h
theorem Zae {α β:Type} (a:α) (f:α→Option β):(some a).bind f=f a:=rfl
theorem Zan {α:Type} {l:List α} {i:Nat} {d:α} (h:i<l.length):l.getD i d=l[i]:=by simp [List.getD,h]
end Ev
end
section
namespace Ev
open Go
theorem ZgP {n:Int} (h1:-9223372036854775808≤n) (h2:n≤9223372036854775807):IntKind.i64.wrap n=n:=Zaf h1 h2
theorem Zyz (x y:Nat) (hx:x<4611686018427387904) (hy:y<4611686018427387904):Zly .i64 (x:Int) (y:Int)=((x^^^y:Nat):Int):=by
 have hz:x^^^y<2^62:=Nat.xor_lt_two_pow (by omega) (by omega)
 unfold Zly
 have e:(BitVec.ofInt IntKind.i64.bits (x:Int)^^^BitVec.ofInt IntKind.i64.bits (y:Int)).toNat=x^^^y:=by
  simp only [BitVec.ofInt_natCast,BitVec.toNat_xor,BitVec.toNat_ofNat,show IntKind.i64.bits=64 from rfl]
  rw [Nat.mod_eq_of_lt (by omega),Nat.mod_eq_of_lt (by omega)]
 rw [e,ZgP (by omega) (by omega)]
theorem Zyy {x y:Int} (hx:0≤x) (hx2:x<4611686018427387904) (hy:0≤y) (hy2:y<4611686018427387904):0≤Zly .i64 x y:=by
 obtain ⟨a,rfl⟩:=Int.eq_ofNat_of_zero_le hx
 obtain ⟨b,rfl⟩:=Int.eq_ofNat_of_zero_le hy
 rw [Zyz a b (by omega) (by omega)];omega
def Zlk (b:List Int) (p:Int):Prop:=b.length≤2000∧(∀x,x∈b→0≤x∧x≤255)∧0≤p
theorem Zlk.up {b:List Int} {p q:Int} (h:Zlk b p) (hq:p≤q):Zlk b q:=⟨h.1,h.2.1,by have:=h.2.2;omega⟩
theorem ZmL {b:List Int} (h:∀x,x∈b→0≤x∧x≤255) (i:Nat):0≤b.getD i 0∧b.getD i 0≤255:=by
 by_cases hi:i<b.length
 ·rw [Zan hi];exact h _ (List.getElem_mem hi)
 ·have:b.getD i 0=0:=by simp [List.getD,List.getElem?_eq_none (by omega:b.length≤i)]
  rw [this];omega
theorem Zpe (n:Int) {b:List Int} {p:Int} (h:Zlk b p) (hp:p≤1000000000) (hn:n≤1000000000) :
  Ret (pick n b p) fun r=>r.2.1=b∧r.2.2=p+1∧0≤r.1∧(r.1<n∨(r.1=0∧(n<1∨b=[]))):=by
 obtain ⟨h1,h2,h3⟩:=h
 unfold pick
 ((try simp (disch:=omega) only [Zam,Zal,Zaj,Zad,Zaq,ZaI,Zaf,Zaw,Zav,Zae,Option.map_some,cond_true,cond_false,Int.sub_zero,Int.toNat_natCast]);(try simp only [Za9,Zc7,Zc9,Zar,Zbj,if_true,if_false]))
 by_cases hn1:n<1
 ·simp only [if_pos hn1,Zae,cond_true]
  exact .pure ⟨rfl,rfl,by omega,.inr ⟨rfl,.inl hn1⟩⟩
 ·by_cases hb:b=[]
  ·subst hb
   simp only [if_neg hn1,Zae,List.length_nil,show (((0:Nat):Int)==0)=true from rfl,cond_true]
   exact .pure ⟨rfl,rfl,by omega,.inr ⟨rfl,.inr trivial⟩⟩
  ·have hl:0<b.length:=List.length_pos_iff.2 hb
   have e:((b.length:Int)==0)=false:=by simp;omega
   have hpp:p+1-1=p:=by omega
   simp only [if_neg hn1,Zae,e,cond_false,hpp]
   have hbl:(b.length:Int)≠0:=by omega
   have m1:0≤p%(b.length:Int):=Int.emod_nonneg _ hbl
   have m2:p%(b.length:Int)<b.length:=Int.emod_lt_of_pos _ (by omega)
   have m3:0≤(p*7+3)%(b.length:Int):=Int.emod_nonneg _ hbl
   have m4:(p*7+3)%(b.length:Int)<b.length:=Int.emod_lt_of_pos _ (by omega)
   have m5:0≤p/(b.length:Int):=Int.ediv_nonneg h3 (by omega)
   have m6:p/(b.length:Int)≤p:=Int.ediv_le_self _ h3
   refine .ite (fun hlt=>?_) fun hlt=>?_
   ·have g:=ZmL h2 p.toNat
    ((try simp (disch:=omega) only [Zam,Zal,Zaj,Zad,Zaq,ZaI,Zaf,Zaw,Zav,Zae,Option.map_some,cond_true,cond_false,Int.sub_zero,Int.toNat_natCast]);(try simp only [Za9,Zc7,Zc9,Zar,Zbj,if_true,if_false]))
    refine .pure ⟨rfl,rfl,Int.emod_nonneg _ (by omega),.inl (Int.emod_lt_of_pos _ (by omega))⟩
   ·((try simp (disch:=omega) only [Zam,Zal,Zaj,Zad,Zaq,ZaI,Zaf,Zaw,Zav,Zae,Option.map_some,cond_true,cond_false,Int.sub_zero,Int.toNat_natCast]);(try simp only [Za9,Zc7,Zc9,Zar,Zbj,if_true,if_false]))
    have g1:=ZmL h2 (p%(b.length:Int)).toNat
    have g2:=ZmL h2 ((p*7+3)%(b.length:Int)).toNat
    generalize b.getD (p%(b.length:Int)).toNat 0=x at *
    generalize b.getD ((p*7+3)%(b.length:Int)).toNat 0=y at *
    generalize p/(b.length:Int)=z at *
    ((try simp (disch:=omega) only [Zam,Zal,Zaj,Zad,Zaq,ZaI,Zaf,Zaw,Zav,Zae,Option.map_some,cond_true,cond_false,Int.sub_zero,Int.toNat_natCast]);(try simp only [Za9,Zc7,Zc9,Zar,Zbj,if_true,if_false]))
    have hx:=Zyy (x:=x*131+y*1117+p*29+z*53) (y:=(x*131+y*1117+p*29+z*53)/64) (by omega) (by omega) (by omega) (by omega)
    ((try simp (disch:=omega) only [Zam,Zal,Zaj,Zad,Zaq,ZaI,Zaf,Zaw,Zav,Zae,Option.map_some,cond_true,cond_false,Int.sub_zero,Int.toNat_natCast]);(try simp only [Za9,Zc7,Zc9,Zar,Zbj,if_true,if_false]))
    refine .pure ⟨rfl,rfl,Int.emod_nonneg _ (by omega),.inl (Int.emod_lt_of_pos _ (by omega))⟩
theorem Zx1 (xs:List Str) {b:List Int} {p:Int} (h:Zlk b p) (hp:p≤1000000000) (hx:0<xs.length) (hx2:xs.length≤1000000000) :
  Ret (Zis xs b p) fun r=>r.2.1=b∧r.2.2=p+1∧r.1∈xs:=by
 unfold Zis
 refine .bind (Zpe _ h hp (by omega)) ?_
 rintro ⟨r,b',p'⟩ ⟨rfl,rfl,h0,h1⟩
 dsimp only at h0 h1 ⊢
 have hlt:r<xs.length:=by omega
 ((try simp (disch:=omega) only [Zam,Zal,Zaj,Zad,Zaq,ZaI,Zaf,Zaw,Zav,Zae,Option.map_some,cond_true,cond_false,Int.sub_zero,Int.toNat_natCast]);(try simp only [Za9,Zc7,Zc9,Zar,Zbj,if_true,if_false]))
 refine .pure ⟨rfl,rfl,?_⟩
 rw [Zan (by omega)]
 exact List.getElem_mem _
end Ev
end
section
namespace Ev
open Go
theorem Zkp (s:Str) (n:Int) (M:Nat) (h0:0≤n) (hM:n.toNat*s.length≤M) (hs:s.length≤M) (hM2:M≤1000000) (hn:n≤1000000000):Ret (Zdt s n) fun r=>r.length≤M:=by
 unfold Zdt Zdt.l0
 refine .bind (P:=fun (o:Str)=>o.length≤M) ?_ ?_
 ·refine Ret.loop (fun (t:Str×Int×Str)=>0≤t.2.1∧t.2.1≤1000000000∧t.2.2.length+t.2.1.toNat*t.1.length≤M∧(0<t.2.1→t.1.length≤M)) (fun t=>t.2.1.toNat) (fun _ (r:Str)=>r.length≤M) ?_ _ _ ?_ ?_
  ·rintro again ⟨s,n,out⟩ ⟨h1,h1',h2,h3⟩ ih
   dsimp only at h1 h1' h2 h3
   simp only [Zdt.l0.step]
   obtain ⟨k,rfl⟩:=Int.eq_ofNat_of_zero_le h1
   rw [Int.toNat_natCast] at h2
   by_cases hk:k=0
   ·subst hk
    ((try simp (disch:=omega) only [Zam,Zal,Zaj,Zad,Zaq,ZaI,Zaf,Zaw,Zav,Zae,Option.map_some,cond_true,cond_false,Int.sub_zero,Int.toNat_natCast]);(try simp only [Za9,Zc7,Zc9,Zar,Zbj,if_true,if_false]))
    rw [if_neg (by omega)]
    exact .pure (by omega)
   ·have hs:=h3 (by omega)
    have hd:k*s.length=(k%2)*s.length+2*((k/2)*s.length):=by
     conv=>lhs;rw [←Nat.mod_add_div k 2]
     rw [Nat.add_mul,Nat.mul_assoc]
    have hL:s.length≤k*s.length:=by
     calc s.length=1*s.length:=by omega
      _≤k*s.length:=Nat.mul_le_mul_right _ (by omega)
    have key:∀o:Str,o.length≤out.length+(k%2)*s.length→Ret (again (s++s,(k:Int)/2,o)) fun r=>r.length≤M:=fun o ho=>by
     have e:((k:Int)/2)=((k/2:Nat):Int):=by omega
     refine ih _ ⟨by dsimp only;omega,by dsimp only;omega,?_,?_⟩ ?_
     ·dsimp only
      rw [e,Int.toNat_natCast,List.length_append,Nat.mul_add]
      omega
     ·dsimp only
      intro hp
      rw [List.length_append]
      have:1≤k/2:=by omega
      have:s.length≤(k/2)*s.length:=by
       calc s.length=1*s.length:=by omega
        _≤(k/2)*s.length:=Nat.mul_le_mul_right _ (by omega)
      omega
     ·dsimp only;omega
    have m1:(k:Int).tmod 2=((k%2:Nat):Int):=by rw [Zaw (by omega)];omega
    rw [m1]
    ((try simp (disch:=omega) only [Zam,Zal,Zaj,Zad,Zaq,ZaI,Zaf,Zaw,Zav,Zae,Option.map_some,cond_true,cond_false,Int.sub_zero,Int.toNat_natCast]);(try simp only [Za9,Zc7,Zc9,Zar,Zbj,if_true,if_false]))
    rw [if_pos (by omega)]
    refine .ite (fun h=>?_) fun h=>?_
    ·have e1:k%2=1:=by omega
     rw [e1,Nat.one_mul] at hd
     ((try simp (disch:=omega) only [Zam,Zal,Zaj,Zad,Zaq,ZaI,Zaf,Zaw,Zav,Zae,Option.map_some,cond_true,cond_false,Int.sub_zero,Int.toNat_natCast]);(try simp only [Za9,Zc7,Zc9,Zar,Zbj,if_true,if_false]))
     exact key (out++s) (by rw [List.length_append,e1];omega)
    ·((try simp (disch:=omega) only [Zam,Zal,Zaj,Zad,Zaq,ZaI,Zaf,Zaw,Zav,Zae,Option.map_some,cond_true,cond_false,Int.sub_zero,Int.toNat_natCast]);(try simp only [Za9,Zc7,Zc9,Zar,Zbj,if_true,if_false]))
     exact key out (by omega)
  ·exact ⟨h0,hn,by dsimp only [List.length_nil];omega,fun _=>hs⟩
  ·dsimp only;omega
 ·intro a h;exact .pure h
def Zi1 {α:Type} (b:List Int) (p c:Int) (Q:α→Prop) (r:α×List Int×Int):Prop:=r.2.1=b∧p≤r.2.2∧r.2.2≤p+c∧Q r.1
theorem Zd0 (n:Int) {b:List Int} {p:Int} (h:Zlk b p) (hp:p≤1000000000) (hn0:1≤n) (hn:n≤1000000000):Ret (pick n b p) (Zi1 b p 1 fun x=>0≤x∧x<n):=
 (Zpe n h hp hn).mono fun r ⟨h1,h2,h3,h4⟩=>⟨h1,by omega,by omega,h3,by omega⟩
theorem Zir (xs:List Str) {b:List Int} {p:Int} (h:Zlk b p) (hp:p≤1000000000) (hx:0<xs.length) (hx2:xs.length≤1000000000):Ret (Zis xs b p) (Zi1 b p 1 fun x=>x∈xs):=
 (Zx1 xs h hp hx hx2).mono fun r ⟨h1,h2,h3⟩=>⟨h1,by omega,by omega,h3⟩
theorem Zmz {b:List Int} {p:Int} (h:Zlk b p) (hp:p≤900000000):Ret (ZbG b p) (Zi1 b p 50 fun s=>s.length≤300):=by
 unfold ZbG
 refine .bind (Zd0 8 h (by omega) (by omega) (by omega)) ?_
 rintro ⟨r,b1,p1⟩ ⟨rfl,g1,g2,g3⟩
 dsimp only at g1 g2 g3 ⊢
 have h1:=h.up g1
 ((try simp (disch:=omega) only [Zam,Zal,Zaj,Zad,Zaq,ZaI,Zaf,Zaw,Zav,Zae,Option.map_some,cond_true,cond_false,Int.sub_zero,Int.toNat_natCast]);(try simp only [Za9,Zc7,Zc9,Zar,Zbj,if_true,if_false]))
 refine .ite (fun _=>.pure ⟨rfl,by dsimp only;omega,by dsimp only;omega,by simp⟩) fun _=>.ite (fun _=>?_) fun _=>.ite (fun _=>?_) fun _=>.ite (fun _=>?_) fun _=>?_
 ·refine .bind (Zir _ h1 (by omega) (by decide) (by decide)) ?_
  rintro ⟨x,b2,p2⟩ ⟨rfl,k1,k2,k3⟩
  dsimp only at k1 k2 k3 ⊢
  refine .bind (Zd0 40 (h1.up k1) (by omega) (by omega) (by omega)) ?_
  rintro ⟨y,b3,p3⟩ ⟨rfl,l1,l2,l3⟩
  dsimp only at l1 l2 l3 ⊢
  have hx:x.length≤6:=by
   simp only [List.mem_cons,List.not_mem_nil,or_false] at k3
   rcases k3 with rfl | rfl | rfl | rfl<;>decide
  rw [Zaf (by omega) (by omega)]
  refine .bind (Zkp x (1+y) 300 (by omega) ?_ (by omega) (by omega) (by omega)) ?_
  ·calc (1+y).toNat*x.length≤40*6:=Nat.mul_le_mul (by omega) hx
    _≤300:=by decide
  ·intro a ha;exact .pure ⟨rfl,by dsimp only;omega,by dsimp only;omega,ha⟩
 ·refine .bind (Zd0 40 h1 (by omega) (by omega) (by omega)) ?_
  rintro ⟨x,b2,p2⟩ ⟨rfl,k1,k2,k3⟩
  dsimp only at k1 k2 k3 ⊢
  refine .bind (P:=fun (o:List Int×Int×List Int)=>o.1=b2∧p2≤o.2.1∧o.2.1≤p2+40∧o.2.2.length≤300) ?_ ?_
  ·unfold ZbG.l0
   refine Ret.loop (fun (t:Int×List Int×Int×List Int)=>t.2.1=b2∧0≤t.1∧t.1≤40∧p2≤t.2.2.1∧t.2.2.1+t.1≤p2+40∧t.2.2.2.length+t.1≤40) (fun t=>t.1.toNat) (fun _ (o:List Int×Int×List Int)=>o.1=b2∧p2≤o.2.1∧o.2.1≤p2+40∧o.2.2.length≤300) ?_ _ _ ?_ ?_
   ·rintro again ⟨n,b3,p3,out⟩ ⟨rfl,q1,q2,q3,q4,q5⟩ ih
    dsimp only at q1 q2 q3 q4 q5
    simp only [ZbG.l0.step]
    ((try simp (disch:=omega) only [Zam,Zal,Zaj,Zad,Zaq,ZaI,Zaf,Zaw,Zav,Zae,Option.map_some,cond_true,cond_false,Int.sub_zero,Int.toNat_natCast]);(try simp only [Za9,Zc7,Zc9,Zar,Zbj,if_true,if_false]))
    refine .ite (fun hn=>?_) fun hn=>.pure ⟨rfl,by dsimp only;omega,by dsimp only;omega,by dsimp only;omega⟩
    refine .bind (Zd0 256 ((h1.up k1).up q3) (by omega) (by omega) (by omega)) ?_
    rintro ⟨y,b4,p4⟩ ⟨rfl,l1,l2,l3⟩
    dsimp only at l1 l2 l3 ⊢
    ((try simp (disch:=omega) only [Zam,Zal,Zaj,Zad,Zaq,ZaI,Zaf,Zaw,Zav,Zae,Option.map_some,cond_true,cond_false,Int.sub_zero,Int.toNat_natCast,List.length_cons,List.length_nil]);(try simp only [Za9,Zc7,Zc9,Zar,Zbj,if_true,if_false,List.length_cons,List.length_nil]))
    refine ih _ ⟨rfl,by dsimp only;omega,by dsimp only;omega,by dsimp only;omega,by dsimp only;omega,by simp only [List.length_append,List.length_cons,List.length_nil];omega⟩ (by dsimp only;omega)
   ·exact ⟨rfl,by dsimp only;omega,by dsimp only;omega,by dsimp only;omega,by dsimp only;omega,by simp only [List.length_nil];omega⟩
   ·dsimp only;omega
  ·rintro ⟨b3,p3,out⟩ ⟨rfl,m1,m2,m3⟩
   dsimp only at m1 m2 m3 ⊢
   exact .pure ⟨rfl,by dsimp only;omega,by dsimp only;omega,by simp [Zbu];omega⟩
 ·refine .bind (Zkp [113] 300 300 (by omega) (by decide) (by decide) (by omega) (by omega)) ?_
  intro a ha;exact .pure ⟨rfl,by dsimp only;omega,by dsimp only;omega,ha⟩
 ·refine .bind (Zd0 12 h1 (by omega) (by omega) (by omega)) ?_
  rintro ⟨x,b2,p2⟩ ⟨rfl,k1,k2,k3⟩
  dsimp only at k1 k2 k3 ⊢
  refine .bind (P:=fun (o:Str×List Int×Int)=>Zi1 b2 p2 12 (fun s=>s.length≤300) o) ?_ ?_
  ·unfold ZbG.l1
   refine Ret.loop (fun (t:Str×Int×List Int×Int)=>t.2.2.1=b2∧0≤t.2.1∧t.2.1≤12∧p2≤t.2.2.2∧t.2.2.2+t.2.1≤p2+12∧t.1.length+6*t.2.1≤72) (fun t=>t.2.1.toNat) (fun _ (o:Str×List Int×Int)=>Zi1 b2 p2 12 (fun s=>s.length≤300) o) ?_ _ _ ?_ ?_
   ·rintro again ⟨out,n,b3,p3⟩ ⟨rfl,q1,q2,q3,q4,q5⟩ ih
    dsimp only at q1 q2 q3 q4 q5
    simp only [ZbG.l1.step]
    ((try simp (disch:=omega) only [Zam,Zal,Zaj,Zad,Zaq,ZaI,Zaf,Zaw,Zav,Zae,Option.map_some,cond_true,cond_false,Int.sub_zero,Int.toNat_natCast]);(try simp only [Za9,Zc7,Zc9,Zar,Zbj,if_true,if_false]))
    refine .ite (fun hn=>?_) fun hn=>.pure ⟨rfl,by dsimp only;omega,by dsimp only;omega,by dsimp only;omega⟩
    refine .bind (Zir _ ((h1.up k1).up q3) (by omega) (by decide) (by decide)) ?_
    rintro ⟨y,b4,p4⟩ ⟨rfl,l1,l2,l3⟩
    dsimp only at l1 l2 l3 ⊢
    have hy:y.length≤6:=by
     simp only [List.mem_cons,List.not_mem_nil,or_false] at l3
     rcases l3 with rfl | rfl | rfl | rfl | rfl | rfl | rfl<;>decide
    ((try simp (disch:=omega) only [Zam,Zal,Zaj,Zad,Zaq,ZaI,Zaf,Zaw,Zav,Zae,Option.map_some,cond_true,cond_false,Int.sub_zero,Int.toNat_natCast]);(try simp only [Za9,Zc7,Zc9,Zar,Zbj,if_true,if_false]))
    refine ih _ ⟨rfl,by dsimp only;omega,by dsimp only;omega,by dsimp only;omega,by dsimp only;omega,by simp only [List.length_append];omega⟩ (by dsimp only;omega)
   ·exact ⟨rfl,by dsimp only;omega,by dsimp only;omega,by dsimp only;omega,by dsimp only;omega,by simp only [List.length_nil];omega⟩
   ·dsimp only;omega
  ·rintro ⟨s,b3,p3⟩ ⟨rfl,m1,m2,m3⟩
   dsimp only at m1 m2 m3 ⊢
   exact .pure ⟨rfl,by dsimp only;omega,by dsimp only;omega,m3⟩
theorem Zrd {b:List Int} {p:Int} (h:Zlk b p) (hp:p≤800000000):Ret (Zct b p) (Zi1 b p 51 fun s=>s.length≤301):=by
 unfold Zct
 refine .bind (Zd0 16 h (by omega) (by omega) (by omega)) ?_
 rintro ⟨r,b1,p1⟩ ⟨rfl,g1,g2,g3⟩
 dsimp only at g1 g2 g3 ⊢
 ((try simp (disch:=omega) only [Zam,Zal,Zaj,Zad,Zaq,ZaI,Zaf,Zaw,Zav,Zae,Option.map_some,cond_true,cond_false,Int.sub_zero,Int.toNat_natCast]);(try simp only [Za9,Zc7,Zc9,Zar,Zbj,if_true,if_false]))
 refine .ite (fun _=>?_) fun _=>?_
 ·refine .bind (Zkp [113] 301 301 (by omega) (by decide) (by decide) (by omega) (by omega)) ?_
  intro a ha;exact .pure ⟨rfl,by dsimp only;omega,by dsimp only;omega,ha⟩
 ·refine .bind (Zmz (h.up g1) (by omega)) ?_
  rintro ⟨x,b2,p2⟩ ⟨rfl,k1,k2,k3⟩
  dsimp only at k1 k2 k3 ⊢
  exact .pure ⟨rfl,by dsimp only;omega,by dsimp only;omega,by dsimp only;omega⟩
theorem ZwK {b:List Int} {p:Int} (h:Zlk b p) (hp:p≤900000000):Ret (Zcj b p) (Zi1 b p 1 fun s=>s.length≤7∧s≠[]):=by
 unfold Zcj
 refine .bind (Zir _ h (by omega) (by decide) (by decide)) ?_
 rintro ⟨x,b2,p2⟩ ⟨rfl,k1,k2,k3⟩
 dsimp only at k1 k2 k3 ⊢
 refine .pure ⟨rfl,k1,k2,?_⟩
 dsimp only
 simp only [List.mem_cons,List.not_mem_nil,or_false] at k3
 rcases k3 with rfl | rfl | rfl | rfl | rfl | rfl | rfl<;>decide
theorem Zre {b:List Int} {p:Int} (h:Zlk b p) (hp:p≤800000000):Ret (Zbz b p) (Zi1 b p 2 fun s=>s.length≤11):=by
 unfold Zbz
 refine .bind (Zd0 6 h (by omega) (by omega) (by omega)) ?_
 rintro ⟨r,b1,p1⟩ ⟨rfl,g1,g2,g3⟩
 dsimp only at g1 g2 g3 ⊢
 ((try simp (disch:=omega) only [Zam,Zal,Zaj,Zad,Zaq,ZaI,Zaf,Zaw,Zav,Zae,Option.map_some,cond_true,cond_false,Int.sub_zero,Int.toNat_natCast]);(try simp only [Za9,Zc7,Zc9,Zar,Zbj,if_true,if_false]))
 refine .ite (fun _=>?_) fun _=>?_
 ·refine .bind (Zir _ (h.up g1) (by omega) (by decide) (by decide)) ?_
  rintro ⟨x,b2,p2⟩ ⟨rfl,k1,k2,k3⟩
  dsimp only at k1 k2 k3 ⊢
  refine .pure ⟨rfl,by dsimp only;omega,by dsimp only;omega,?_⟩
  dsimp only
  simp only [List.mem_cons,List.not_mem_nil,or_false] at k3
  rcases k3 with rfl | rfl | rfl | rfl | rfl | rfl | rfl | rfl | rfl<;>decide
 ·refine .bind (ZwK (h.up g1) (by omega)) ?_
  rintro ⟨x,b2,p2⟩ ⟨rfl,k1,k2,k3⟩
  dsimp only at k1 k2 k3 ⊢
  exact .pure ⟨rfl,by dsimp only;omega,by dsimp only;omega,by dsimp only;omega⟩
end Ev
end
section
namespace Ev
open Go
def Zph:List Str:=[[97],[98,46,116,120,116],[100,105,114,47,97],[100,105,114,47,98],[120,45,121,95,122],[97,47,98,47,99,47,100],[114,101,97,100,109,101],[],[47],[97,47],[46,46],[97,47,46,46,47,98],[65],[97,32,98],[101,108,101,118,101,110,108,101,116,116,101],[97,47,98,47,99,47,100,47,101],[102,48],[102,49],[102,50],[102,51],[102,52],[102,53]]
theorem Zpo {b:List Int} {p:Int} (h:Zlk b p) (hp:p≤800000000):Ret (Zbz b p) (Zi1 b p 2 fun s=>s∈Zph):=by
 unfold Zbz
 refine .bind (Zd0 6 h (by omega) (by omega) (by omega)) ?_
 rintro ⟨r,b1,p1⟩ ⟨rfl,g1,g2,g3⟩
 dsimp only at g1 g2 g3 ⊢
 refine .cond (fun _=>?_) fun _=>?_
 ·refine .bind (Zir _ (h.up g1) (by omega) (by decide) (by decide)) ?_
  rintro ⟨x,b2,p2⟩ ⟨rfl,k1,k2,k3⟩
  dsimp only at k1 k2 k3 ⊢
  refine .pure ⟨rfl,by dsimp only;omega,by dsimp only;omega,?_⟩
  dsimp only
  simp only [List.mem_cons,List.not_mem_nil,or_false] at k3
  rcases k3 with rfl | rfl | rfl | rfl | rfl | rfl | rfl | rfl | rfl<;>decide
 ·have h1:=h.up g1
  refine .bind (P:=Zi1 b1 p1 1 fun s=>s∈Zph) ?_ ?_
  ·unfold Zcj
   refine .bind (Zir _ h1 (by omega) (by decide) (by decide)) ?_
   rintro ⟨x,b2,p2⟩ ⟨rfl,k1,k2,k3⟩
   dsimp only at k1 k2 k3 ⊢
   refine .pure ⟨rfl,k1,k2,?_⟩
   dsimp only
   simp only [List.mem_cons,List.not_mem_nil,or_false] at k3
   rcases k3 with rfl | rfl | rfl | rfl | rfl | rfl | rfl<;>decide
  ·rintro ⟨x,b2,p2⟩ ⟨rfl,k1,k2,k3⟩
   dsimp only at k1 k2 k3 ⊢
   exact .pure ⟨rfl,by dsimp only;omega,by dsimp only;omega,k3⟩
theorem ZqH:∀s∈Zph,s.length≤11:=by decide
theorem Zu5 {b:List Int} {p:Int} (h:Zlk b p) (hp:p≤900000000):Ret (Zcj b p) (Zi1 b p 1 fun s=>s∈Zph):=by
 unfold Zcj
 refine .bind (Zir _ h (by omega) (by decide) (by decide)) ?_
 rintro ⟨x,b2,p2⟩ ⟨rfl,k1,k2,k3⟩
 dsimp only at k1 k2 k3 ⊢
 refine .pure ⟨rfl,k1,k2,?_⟩
 dsimp only
 simp only [List.mem_cons,List.not_mem_nil,or_false] at k3
 rcases k3 with rfl | rfl | rfl | rfl | rfl | rfl | rfl<;>decide
end Ev
end
section
namespace Ev
open Go
theorem Zfs (n k:Nat) (hk:k≤64):Znk .i64 (n:Int) (k:Int)=((n/2^k:Nat):Int):=by
 unfold Znk
 rw [Int.toNat_natCast,show min k IntKind.i64.bits=k from Nat.min_eq_left hk,show ((2:Int)^k)=((2^k:Nat):Int) by simp,Int.fdiv_eq_ediv_of_nonneg _ (Int.natCast_nonneg _)]
 exact (Int.natCast_ediv n (2^k)).symm
theorem ZeV (n k:Nat) (hk:k≤64) (h:n*2^k<9223372036854775808):Zr1 .i64 (n:Int) (k:Int)=((n*2^k:Nat):Int):=by
 unfold Zr1
 rw [Int.toNat_natCast,show min k IntKind.i64.bits=k from Nat.min_eq_left hk,show ((2:Int)^k)=((2^k:Nat):Int) by simp,←Int.natCast_mul]
 exact ZgP (by omega) (by omega)
theorem ZtV (x y:Nat) (hx:x<9223372036854775808) (hy:y<9223372036854775808):Zk8 .i64 (x:Int) (y:Int)=((x &&& y:Nat):Int):=by
 have hz:x &&& y<2^63:=Nat.and_lt_two_pow _ (by omega)
 unfold Zk8
 have e:(BitVec.ofInt IntKind.i64.bits (x:Int) &&& BitVec.ofInt IntKind.i64.bits (y:Int)).toNat=x &&& y:=by
  simp only [BitVec.ofInt_natCast,BitVec.toNat_and,BitVec.toNat_ofNat,show IntKind.i64.bits=64 from rfl]
  rw [Nat.mod_eq_of_lt (by omega),Nat.mod_eq_of_lt (by omega)]
 rw [e,ZgP (by omega) (by omega)]
theorem Zks (x y:Nat) (hx:x<9223372036854775808) (hy:y<9223372036854775808):ior .i64 (x:Int) (y:Int)=((x ||| y:Nat):Int):=by
 have hz:x ||| y<2^63:=Nat.or_lt_two_pow (by omega) (by omega)
 unfold ior
 have e:(BitVec.ofInt IntKind.i64.bits (x:Int) ||| BitVec.ofInt IntKind.i64.bits (y:Int)).toNat=x ||| y:=by
  simp only [BitVec.ofInt_natCast,BitVec.toNat_or,BitVec.toNat_ofNat,show IntKind.i64.bits=64 from rfl]
  rw [Nat.mod_eq_of_lt (by omega),Nat.mod_eq_of_lt (by omega)]
 rw [e,ZgP (by omega) (by omega)]
theorem Zy8 (x y:Nat) (hx:x<256) (hy:y<256):ior .u8 (x:Int) (y:Int)=((x ||| y:Nat):Int):=by
 have hz:x ||| y<2^8:=Nat.or_lt_two_pow (by omega) (by omega)
 unfold ior
 have e:(BitVec.ofInt IntKind.u8.bits (x:Int) ||| BitVec.ofInt IntKind.u8.bits (y:Int)).toNat=x ||| y:=by
  simp only [BitVec.ofInt_natCast,BitVec.toNat_or,BitVec.toNat_ofNat,show IntKind.u8.bits=8 from rfl]
  rw [Nat.mod_eq_of_lt (by omega),Nat.mod_eq_of_lt (by omega)]
 rw [e,show IntKind.u8.wrap=IntKind.wrap .u8 from rfl]
 have:=wrap_u8' (((x ||| y:Nat)):Int)
 rw [this];omega
where
 wrap_u8' (n:Int):IntKind.wrap .u8 n=n%256:=by simp [IntKind.wrap,IntKind.bits,IntKind.signed]
theorem Zlz (x:Nat) (hx:x<9223372036854775808):Zk8 .i64 (x:Int) 1=((x%2:Nat):Int):=by
 have:=ZtV x 1 hx (by omega)
 rw [Nat.and_one_is_mod] at this
 exact this
theorem Zmf (x c k:Nat) (h:x<2^k):x ||| c*2^k=x+c*2^k:=by
 have:=Nat.two_pow_add_eq_or_of_lt h c
 rw [Nat.or_comm,Nat.mul_comm c,←this,Nat.add_comm]
theorem Zd4 (n k:Nat):n/2^k%2=(n.testBit k).toNat:=by
 rw [Nat.testBit_eq_decide_div_mod_eq]
 have:n/2^k%2<2:=Nat.mod_lt _ (by omega)
 by_cases h:n/2^k%2=1
 ·simp [h]
 ·have:n/2^k%2=0:=by omega
  simp [this]
def ZbS (n:Nat):Nat→List Bool
 | 0=>[]
 | k+1=>ZbS n k++[n.testBit k]
def Zcy:List Bool→Nat
 | []=>0
 | b::l=>b.toNat+2*Zcy l
theorem Zak (n:Nat):∀k,(ZbS n k).length=k
 | 0=>rfl
 | k+1=>by simp [ZbS,Zak n k]
theorem ZeG (a b:List Bool):Zcy (a++b)=Zcy a+2^a.length*Zcy b:=by
 induction a with
 | nil=>simp [Zcy]
 | cons x l ih=>
  simp only [List.cons_append,Zcy,ih,List.length_cons,Nat.pow_succ]
  rw [Nat.mul_add,Nat.add_assoc];congr 2
  rw [←Nat.mul_assoc,Nat.mul_comm 2]
theorem ZlL (l:List Bool):Zcy l<2^l.length:=by
 induction l with
 | nil=>simp [Zcy]
 | cons x l ih=>
  simp only [Zcy,List.length_cons,Nat.pow_succ]
  have:x.toNat≤1:=by cases x<;>decide
  omega
theorem ZlK (n:Nat):∀k,Zcy (ZbS n k)=n%2^k
 | 0=>by simp [ZbS,Zcy,Nat.mod_one]
 | k+1=>by
  rw [ZbS,ZeG,ZlK n k,Zak]
  simp only [Zcy,Nat.mul_zero,Nat.add_zero]
  rw [←Zd4,Nat.mod_pow_succ]
def Zfm (l:List Bool):List Int:=(List.range ((l.length+7)/8)).map fun i=>((Zcy ((l.drop (8*i)).take 8):Nat):Int)
theorem Zdq (l:List Bool):(Zfm l).length=(l.length+7)/8:=by simp [Zfm]
theorem Zto (l:List Bool) (i:Nat) (h:i<(l.length+7)/8):(Zfm l).getD i 0=((Zcy ((l.drop (8*i)).take 8):Nat):Int):=by
 simp [Zfm,List.getD,h]
theorem ZuG (l:List Bool) (c:Bool) (h:l.length%8=0):Zfm (l++[c])=Zfm l++[((c.toNat:Nat):Int)]:=by
 apply List.ext_getElem
 ·simp [Zdq];omega
 ·intro i h1 h2
  rw [Zdq,List.length_append,List.length_singleton] at h1
  simp only [Zfm,List.getElem_map,List.getElem_range]
  by_cases hi:i<(l.length+7)/8
  ·rw [List.getElem_append_left (by simpa using hi)]
   simp only [List.getElem_map,List.getElem_range]
   rw [List.drop_append_of_le_length (by omega),List.take_append_of_le_length (by simp;omega)]
  ·rw [List.getElem_append_right (by simp;omega)]
   have:8*i=l.length:=by omega
   rw [this,List.drop_left]
   simp [Zcy]
theorem ZuF (l:List Bool) (c:Bool) (h:l.length%8≠0) :
  Zfm (l++[c])=(Zfm l).set (l.length/8) ((Zfm l).getD (l.length/8) 0+(c.toNat*2^(l.length%8):Nat)):=by
 apply List.ext_getElem
 ·simp [Zdq];omega
 ·intro i h1 h2
  rw [Zdq,List.length_append,List.length_singleton] at h1
  have hi:i<(l.length+7)/8:=by omega
  rw [List.getElem_set]
  simp only [Zfm,List.getElem_map,List.getElem_range]
  split
  ·rename_i e
   have:=Zto l (l.length/8) (by omega)
   unfold Zfm at this
   rw [this,←e]
   have hl:(l.drop (8*(l.length/8))).length=l.length%8:=by rw [List.length_drop];omega
   rw [List.drop_append_of_le_length (by omega),List.take_of_length_le (by simp;omega),List.take_of_length_le (by omega),ZeG,hl]
   simp only [Zcy,Nat.mul_zero,Nat.add_zero]
   rw [Nat.mul_comm (2^_)]
   omega
  ·rename_i e
   rw [List.drop_append_of_le_length (by omega),List.take_append_of_le_length (by simp;omega)]
theorem Zx4 (l:List Bool) (h:l.length%8≠0):∃x:Nat,(Zfm l).getD (l.length/8) 0=(x:Int)∧x<2^(l.length%8):=by
 refine ⟨_,Zto l _ (by omega),?_⟩
 have:=ZlL ((l.drop (8*(l.length/8))).take 8)
 have hl:((l.drop (8*(l.length/8))).take 8).length=l.length%8:=by simp;omega
 rwa [hl] at this
theorem ZvD (n k:Nat) (hn:n<9223372036854775808) (hk:k≤62):∀(m i:Nat) (l:List Bool),i+m=k→l.length+m≤100000000→
  ZeX.l0 (m+1) ((n:Int),(k:Int),(i:Int),(l.length:Int),Zfm l)=some ((((l++((ZbS n k).drop i)).length:Nat):Int),Zfm (l++((ZbS n k).drop i)))
 | 0,i,l,hi,hl=>by
  rw [ZeX.l0.succ]
  simp only [ZeX.l0.step]
  rw [ZaL (by omega),List.drop_eq_nil_of_le (by rw [Zak];omega)]
  simp
 | m+1,i,l,hi,hl=>by
  have ik:i<k:=by omega
  have hd:(ZbS n k).drop i=n.testBit i::(ZbS n k).drop (i+1):=by
   have e:(ZbS n k)[i]'(by rw [Zak];exact ik)=n.testBit i:=by
    clear hi hl hk
    induction k with
    | zero=>omega
    | succ k ih=>
     simp only [ZbS]
     by_cases h:i<k
     ·rw [List.getElem_append_left (by rw [Zak];exact h)];exact ih h
     ·have:i=k:=by omega
      subst this
      rw [List.getElem_append_right (by rw [Zak];omega)]
      simp
   rw [List.drop_eq_getElem_cons (by rw [Zak];exact ik),e]
  have ih:=ZvD n k hn hk m (i+1) (l++[n.testBit i]) (by omega) (by simp;omega)
  rw [ZeX.l0.succ]
  simp only [ZeX.l0.step]
  rw [ZaK ik,cond_true]
  have hmod:((l.length:Int)).tmod 8=((l.length%8:Nat):Int):=by rw [Zaw (by omega)];omega
  have hdiv:((l.length:Int)).tdiv 8=((l.length/8:Nat):Int):=by rw [Zav (by omega)];omega
  have hbit:Zk8 .i64 (Znk .i64 (n:Int) (i:Int)) 1=(((n.testBit i).toNat:Nat):Int):=by
   rw [Zfs n i (by omega),Zlz _ (Nat.lt_of_le_of_lt (Nat.div_le_self _ _) hn),Zd4]
  have hc:(n.testBit i).toNat≤1:=by cases n.testBit i<;>decide
  have hp:2^(l.length%8)≤2^7:=Nat.pow_le_pow_right (by omega) (by omega)
  have hle:(n.testBit i).toNat*2^(l.length%8)≤128:=by
   calc _≤1*2^7:=Nat.mul_le_mul hc hp
    _=128:=by decide
  have hshl:Zr1 .i64 (((n.testBit i).toNat:Nat):Int) ((l.length%8:Nat):Int)=(((n.testBit i).toNat*2^(l.length%8):Nat):Int):=ZeV _ _ (by omega) (by omega)
  have hwr:IntKind.wrap .u8 (((n.testBit i).toNat*2^(l.length%8):Nat):Int)=(((n.testBit i).toNat*2^(l.length%8):Nat):Int):=by
   rw [show IntKind.wrap .u8 (((n.testBit i).toNat*2^(l.length%8):Nat):Int)=(((n.testBit i).toNat*2^(l.length%8):Nat):Int)%256 by simp [IntKind.wrap,IntKind.bits,IntKind.signed]]
   omega
  simp only [hmod]
  by_cases h0:l.length%8=0
  ·have e0:(((l.length%8:Nat):Int)==0)=true:=by simp [h0]
   simp only [e0,cond_true]
   rw [Zab _ (ZeR (by simp [Zdq];omega))]
   simp only [Zae,hmod,hdiv,hbit,hshl,hwr]
   have hlt:l.length/8<(Zfm l++[0]).length:=by rw [List.length_append,Zdq];simp;omega
   have hat:l.length/8=(Zfm l).length:=by rw [Zdq];omega
   ((try simp (disch:=omega) only [Zam,Zal,Zaj,Zad,Zaq,ZaI,Zaf,Zaw,Zav,Zae,Option.map_some,cond_true,cond_false,Int.sub_zero,Int.toNat_natCast]);(try simp only [Za9,Zc7,Zc9,Zar,Zbj,if_true,if_false]))
   rw [hat,List.getD_eq_getElem?_getD,List.getElem?_concat_length,Option.getD_some,←hat]
   have hz:ior .u8 0 (((n.testBit i).toNat*2^(l.length%8):Nat):Int)=(((n.testBit i).toNat:Nat):Int):=by
    have:=Zy8 0 ((n.testBit i).toNat*2^(l.length%8)) (by omega) (by omega)
    rw [show ((0:Nat):Int)=0 from rfl] at this
    rw [this,Nat.zero_or,h0];simp
   rw [hz,hat,List.set_append_right _ _ (Nat.le_refl _),Nat.sub_self,List.set_cons_zero,←ZuG l _ h0]
   rw [show ((i:Int)+1)=((i+1:Nat):Int) by omega,show ((l.length:Int)+1)=(((l++[n.testBit i]).length:Nat):Int) by simp]
   rw [ih,hd,List.append_assoc];rfl
  ·have e0:(((l.length%8:Nat):Int)==0)=false:=by simp;omega
   simp only [e0,cond_false,Zae,hmod,hdiv,hbit,hshl,hwr]
   have hlt:l.length/8<(Zfm l).length:=by rw [Zdq];omega
   obtain ⟨x,hx,hxl⟩:=Zx4 l h0
   have hx8:x<128:=Nat.lt_of_lt_of_le hxl hp
   ((try simp (disch:=omega) only [Zam,Zal,Zaj,Zad,Zaq,ZaI,Zaf,Zaw,Zav,Zae,Option.map_some,cond_true,cond_false,Int.sub_zero,Int.toNat_natCast]);(try simp only [Za9,Zc7,Zc9,Zar,Zbj,if_true,if_false]))
   rw [hx]
   rw [Zy8 x _ (by omega) (by omega),Zmf x _ _ hxl]
   have:=ZuF l (n.testBit i) h0
   rw [hx] at this
   rw [show (((x+(n.testBit i).toNat*2^(l.length%8):Nat)):Int)=(x:Int)+(((n.testBit i).toNat*2^(l.length%8):Nat):Int) by omega,←this]
   rw [show ((i:Int)+1)=((i+1:Nat):Int) by omega,show ((l.length:Int)+1)=(((l++[n.testBit i]).length:Nat):Int) by simp]
   rw [ih,hd,List.append_assoc];rfl
theorem ZeF (n k:Nat) (hn:n<9223372036854775808) (hk:k≤62) (l:List Bool) (hl:l.length≤90000000) :
  ZeX (n:Int) (k:Int) (l.length:Int) (Zfm l)=some ((((l++ZbS n k).length:Nat):Int),Zfm (l++ZbS n k)):=by
 unfold ZeX
 have:=ZvD n k hn hk k 0 l (by omega) (by omega)
 rw [ZaC,show (0:Int)=((0:Nat):Int) from rfl,this]
 simp
end Ev
end
section
namespace Ev
open Go
theorem Zje (n:Nat):∀(k i:Nat) (h:i<k),(ZbS n k)[i]'(by rw [Zak];exact h)=n.testBit i
 | 0,i,h=>by omega
 | k+1,i,h=>by
  simp only [ZbS]
  by_cases hi:i<k
  ·rw [List.getElem_append_left (by rw [Zak];exact hi)];exact Zje n k i hi
  ·have:i=k:=by omega
   subst this
   rw [List.getElem_append_right (by rw [Zak];omega)]
   simp
theorem ZtK:∀(m:Nat) (o:Nat),m≤62→o*2^m<9223372036854775808→ZcQ.l0 (m+1) ((m:Int),(o:Int))=some ((o*2^m:Nat):Int)
 | 0,o,hm,h=>by
  rw [ZcQ.l0.succ];simp only [ZcQ.l0.step]
  ((try simp (disch:=omega) only [Zam,Zal,Zaj,Zad,Zaq,ZaI,Zaf,Zaw,Zav,Zae,Option.map_some,cond_true,cond_false,Int.sub_zero,Int.toNat_natCast]);(try simp only [Za9,Zc7,Zc9,Zar,Zbj,if_true,if_false]))
  rw [if_neg (by omega)];simp
 | m+1,o,hm,h=>by
  have h2:o*2^(m+1)=2*o*2^m:=by rw [Nat.pow_succ,Nat.mul_comm (2^m) 2,←Nat.mul_assoc,Nat.mul_comm o 2]
  have hle:2*o≤2*o*2^m:=Nat.le_mul_of_pos_right _ (Nat.two_pow_pos m)
  rw [ZcQ.l0.succ];simp only [ZcQ.l0.step]
  ((try simp (disch:=omega) only [Zam,Zal,Zaj,Zad,Zaq,ZaI,Zaf,Zaw,Zav,Zae,Option.map_some,cond_true,cond_false,Int.sub_zero,Int.toNat_natCast]);(try simp only [Za9,Zc7,Zc9,Zar,Zbj,if_true,if_false]))
  rw [if_pos (by omega),show (((m+1:Nat):Int)-1)=(m:Int) by omega,show (2*(o:Int))=((2*o:Nat):Int) by omega,ZtK m (2*o) (by omega) (by omega),h2]
theorem Zh5 (n:Nat) (hn:n≤62):ZcQ (n:Int)=some ((2^n:Nat):Int):=by
 unfold ZcQ
 have hp:2^n≤2^62:=Nat.pow_le_pow_right (by omega) hn
 have:=ZtK n 1 hn (by omega)
 rw [show ((n:Int)-0).toNat+1=n+1 by omega,show (1:Int)=((1:Nat):Int) from rfl,this,Nat.one_mul]
 rfl
def oT (l:List Bool):List Int:=(List.range (l.length/8)).map fun i=>((Zcy ((l.drop (8*i)).take 8):Nat):Int)
def oL (l:List Bool):Nat:=Zcy (l.drop (8*(l.length/8)))
theorem oL_lt (l:List Bool):oL l<2^(l.length%8):=by
 have:=ZlL (l.drop (8*(l.length/8)))
 have hl:(l.drop (8*(l.length/8))).length=l.length%8:=by rw [List.length_drop];omega
 rwa [hl] at this
theorem Zwe (l:List Bool):(oT l).length=l.length/8:=by simp [oT]
theorem ZzA (l:List Bool) (c:Bool) (h:l.length%8≠7):oL (l++[c])=oL l+c.toNat*2^(l.length%8):=by
 unfold oL
 have e:(l++[c]).length/8=l.length/8:=by simp;omega
 have hl:(l.drop (8*(l.length/8))).length=l.length%8:=by rw [List.length_drop];omega
 rw [e,List.drop_append_of_le_length (by omega),ZeG,hl]
 simp only [Zcy,Nat.mul_zero,Nat.add_zero]
 rw [Nat.mul_comm (2^_)]
theorem Zzy (l:List Bool) (c:Bool) (h:l.length%8≠7):oT (l++[c])=oT l:=by
 unfold oT
 have e:(l++[c]).length/8=l.length/8:=by simp;omega
 rw [e]
 apply List.map_congr_left
 intro i hi
 have:=List.mem_range.1 hi
 rw [List.drop_append_of_le_length (by omega),List.take_append_of_le_length (by simp;omega)]
theorem Zzz (l:List Bool) (c:Bool) (h:l.length%8=7):oT (l++[c])=oT l++[((oL l+c.toNat*2^(l.length%8):Nat):Int)]∧oL (l++[c])=0:=by
 have e:(l++[c]).length/8=l.length/8+1:=by simp;omega
 have hl:(l.drop (8*(l.length/8))).length=l.length%8:=by rw [List.length_drop];omega
 constructor
 ·unfold oT oL
  rw [e,List.range_succ,List.map_append,List.map_singleton]
  congr 1
  ·apply List.map_congr_left
   intro i hi
   have:=List.mem_range.1 hi
   rw [List.drop_append_of_le_length (by omega),List.take_append_of_le_length (by simp;omega)]
  ·rw [List.drop_append_of_le_length (by omega),List.take_of_length_le (by simp;omega),ZeG,hl]
   simp only [Zcy,Nat.mul_zero,Nat.add_zero]
   rw [Nat.mul_comm (2^_)]
 ·unfold oL
  rw [e,List.drop_eq_nil_of_le (by simp;omega)];rfl
theorem Zwf (n k:Nat) (hn:n<4611686018427387904) (hk:k≤1000):∀(m i:Nat) (l:List Bool),i+m=k→l.length+m≤100000000→
  Zeb.l0 (m+1) (((n/2^i:Nat):Int),(k:Int),(i:Int),(oL l:Int),((l.length%8:Nat):Int),oT l) =
   some ((oL (l++(ZbS n k).drop i):Int),(((l++(ZbS n k).drop i).length%8:Nat):Int),oT (l++(ZbS n k).drop i))
 | 0,i,l,hi,hl=>by
  rw [Zeb.l0.succ];simp only [Zeb.l0.step]
  rw [ZaL (by omega),List.drop_eq_nil_of_le (by rw [Zak];omega)]
  simp
 | m+1,i,l,hi,hl=>by
  have ik:i<k:=by omega
  have hd:(ZbS n k).drop i=n.testBit i::(ZbS n k).drop (i+1):=by
   rw [List.drop_eq_getElem_cons (by rw [Zak];exact ik),Zje n k i ik]
  have ih:=Zwf n k hn hk m (i+1) (l++[n.testBit i]) (by omega) (by simp;omega)
  have hL:=oL_lt l
  have hp:2^(l.length%8)≤2^7:=Nat.pow_le_pow_right (by omega) (by omega)
  have hc:(n.testBit i).toNat≤1:=by cases n.testBit i<;>decide
  have hle:(n.testBit i).toNat*2^(l.length%8)≤1*2^(l.length%8):=Nat.mul_le_mul_right _ hc
  have hdn:n/2^i≤n:=Nat.div_le_self _ _
  have hbit:(((n/2^i:Nat):Int)).tmod 2=(((n.testBit i).toNat:Nat):Int):=by
   rw [Zaw (Int.natCast_nonneg _),←Zd4];exact (Int.natCast_emod _ 2).symm
  have hhalf:(((n/2^i:Nat):Int)).tdiv 2=((n/2^(i+1):Nat):Int):=by
   rw [Zav (Int.natCast_nonneg _),Nat.pow_succ,←Nat.div_div_eq_div_mul];exact (Int.natCast_ediv _ 2).symm
  rw [Zeb.l0.succ];simp only [Zeb.l0.step]
  rw [ZaK ik,cond_true,Zh5 _ (by omega)]
  simp only [Zae,hbit,hhalf]
  rw [show (((n.testBit i).toNat:Nat):Int)*((2^(l.length%8):Nat):Int)=(((n.testBit i).toNat*2^(l.length%8):Nat):Int) by rw [Int.natCast_mul]]
  have hdn2:n/2^(i+1)≤n:=Nat.div_le_self _ _
  have hw:w64 ((n/2^(i+1):Nat):Int)=((n/2^(i+1):Nat):Int):=by
   generalize n/2^(i+1)=q at hdn2 ⊢
   exact Zaf (by omega) (by omega)
  simp only [hw]
  by_cases h7:l.length%8=7
  ·obtain ⟨f1,f2⟩:=Zzz l (n.testBit i) h7
   have e8:((((l.length%8:Nat):Int)+1)==8)=true:=by simp;omega
   ((try simp (disch:=omega) only [Zam,Zal,Zaj,Zad,Zaq,ZaI,Zaf,Zaw,Zav,Zae,Option.map_some,cond_true,cond_false,Int.sub_zero,Int.toNat_natCast,e8]);(try simp only [Za9,Zc7,Zc9,Zar,Zbj,if_true,if_false,e8]))
   rw [Zab _ (ZeR (by simp [Zwe];omega))]
   have hwr:IntKind.wrap .u8 ((oL l:Int)+(((n.testBit i).toNat*2^(l.length%8):Nat):Int))=(((oL l+(n.testBit i).toNat*2^(l.length%8):Nat)):Int):=by
    rw [show IntKind.wrap .u8 ((oL l:Int)+(((n.testBit i).toNat*2^(l.length%8):Nat):Int))=((oL l:Int)+(((n.testBit i).toNat*2^(l.length%8):Nat):Int))%256 by simp [IntKind.wrap,IntKind.bits,IntKind.signed]]
    omega
   rw [hwr,←f1]
   have hm:(l++[n.testBit i]).length%8=0:=by simp;omega
   rw [f2,hm] at ih
   rw [show ((i:Int)+1)=((i+1:Nat):Int) by omega]
   rw [show (0:Int)=((0:Nat):Int) from rfl,ih,hd,List.append_assoc];rfl
  ·have e8:((((l.length%8:Nat):Int)+1)==8)=false:=by simp;omega
   ((try simp (disch:=omega) only [Zam,Zal,Zaj,Zad,Zaq,ZaI,Zaf,Zaw,Zav,Zae,Option.map_some,cond_true,cond_false,Int.sub_zero,Int.toNat_natCast,e8]);(try simp only [Za9,Zc7,Zc9,Zar,Zbj,if_true,if_false,e8]))
   have hm:(l++[n.testBit i]).length%8=l.length%8+1:=by simp;omega
   rw [ZzA l _ h7,Zzy l _ h7,hm] at ih
   rw [show ((i:Int)+1)=((i+1:Nat):Int) by omega,show (((l.length%8:Nat):Int)+1)=((l.length%8+1:Nat):Int) by omega,
    show (oL l:Int)+(((n.testBit i).toNat*2^(l.length%8):Nat):Int)=(((oL l+(n.testBit i).toNat*2^(l.length%8):Nat)):Int) by omega]
   rw [ih,hd,List.append_assoc];rfl
theorem Zem (n k:Nat) (hn:n<4611686018427387904) (hk:k≤1000) (l:List Bool) (hl:l.length+k≤90000000) :
  Zeb (n:Int) (k:Int) (oL l:Int) ((l.length%8:Nat):Int) (oT l)=some ((oL (l++ZbS n k):Int),(((l++ZbS n k).length%8:Nat):Int),oT (l++ZbS n k)):=by
 unfold Zeb
 have:=Zwf n k hn hk k 0 l (by omega) (by omega)
 rw [ZaC]
 simp only [Nat.pow_zero,Nat.div_one,List.drop_zero] at this
 rw [show (0:Int)=((0:Nat):Int) from rfl,this]
 rfl
theorem ZqE:∀k,ZbS 0 k=List.replicate k false
 | 0=>rfl
 | k+1=>by rw [ZbS,ZqE k,List.replicate_succ'];simp
def Zie (l:List Bool):List Bool:=l++List.replicate ((8-l.length%8)%8) false
theorem Zf7 (l:List Bool):(Zie l).length=8*((l.length+7)/8):=by simp [Zie];omega
theorem Zjc (l:List Bool):Zfm l=oT (Zie l)∧Zfm (Zie l)=Zfm l:=by
 have key:∀i,Zcy (((Zie l).drop (8*i)).take 8)=Zcy ((l.drop (8*i)).take 8):=fun i=>by
  have z:∀k,Zcy (List.replicate k false)=0:=fun k=>by induction k with
   | zero=>rfl
   | succ k ih=>rw [List.replicate_succ];simp [Zcy,ih]
  have vt:∀(a b:List Bool) k,Zcy b=0→(∀j,Zcy (b.take j)=0)→Zcy ((a++b).take k)=Zcy (a.take k):=fun a b k h1 h2=>by
   rw [List.take_append,ZeG,h2];simp
  unfold Zie
  by_cases h:8*i≤l.length
  ·rw [List.drop_append_of_le_length h]
   exact vt _ _ _ (z _) (fun j=>by rw [List.take_replicate];exact z _)
  ·rw [List.drop_eq_nil_of_le (by omega:l.length≤8*i),List.drop_append,List.drop_eq_nil_of_le (by omega:l.length≤8*i),List.nil_append,List.drop_replicate,List.take_replicate,z];rfl
 constructor
 ·unfold Zfm oT
  rw [Zf7,show 8*((l.length+7)/8)/8=(l.length+7)/8 by omega]
  exact List.map_congr_left fun i _=>by rw [key]
 ·unfold Zfm
  rw [Zf7,show (8*((l.length+7)/8)+7)/8=(l.length+7)/8 by omega]
  exact List.map_congr_left fun i _=>by rw [key]
theorem ZqC (l:List Bool) (hl:l.length≤80000000):ZdJ (oL l:Int) ((l.length%8:Nat):Int) (oT l)=some ((oL (Zie l):Int),0,Zfm l):=by
 unfold ZdJ
 ((try simp (disch:=omega) only [Zam,Zal,Zaj,Zad,Zaq,ZaI,Zaf,Zaw,Zav,Zae,Option.map_some,cond_true,cond_false,Int.sub_zero,Int.toNat_natCast]);(try simp only [Za9,Zc7,Zc9,Zar,Zbj,if_true,if_false]))
 by_cases h:l.length%8=0
 ·rw [if_neg (by omega)]
  have e:Zie l=l:=by unfold Zie;rw [h];simp
  rw [(Zjc l).1,e,h];rfl
 ·rw [if_pos (by omega),show (8-((l.length%8:Nat):Int))=((8-l.length%8:Nat):Int) by omega,show (0:Int)=((0:Nat):Int) from rfl,Zem 0 _ (by omega) (by omega) l (by omega)]
  simp only [Zae,ZqE]
  have e:l++List.replicate (8-l.length%8) false=Zie l:=by unfold Zie;rw [Nat.mod_eq_of_lt (by omega:8-l.length%8<8)]
  rw [e,(Zjc l).1,Zf7]
  simp
def ZoU (n k:Nat):Nat:=Zcy (ZbS n k).reverse
theorem Zp3 (n k:Nat):ZoU n (k+1)=2*ZoU n k+n/2^k%2:=by
 unfold ZoU
 rw [ZbS,List.reverse_append]
 simp only [List.reverse_cons,List.reverse_nil,List.nil_append,List.singleton_append,Zcy]
 rw [Zd4];omega
theorem ZoT (n k:Nat):ZoU n k<2^k:=by
 have:=ZlL (ZbS n k).reverse
 rwa [List.length_reverse,Zak] at this
theorem Zne (n k:Nat) (hn:n<9223372036854775808) (hk:k≤60):∀(m i:Nat),i+m=k→ZbH.l0 (m+1) ((n:Int),(ZoU n i:Int),(k:Int),(i:Int))=some (ZoU n k:Int)
 | 0,i,hi=>by
  rw [ZbH.l0.succ];simp only [ZbH.l0.step]
  rw [ZaL (by omega)]
  have:i=k:=by omega
  subst this;rfl
 | m+1,i,hi=>by
  have ht:=ZoT n i
  have hp:2^i≤2^60:=Nat.pow_le_pow_right (by omega) (by omega)
  have hm:n/2^i%2<2:=Nat.mod_lt _ (by omega)
  rw [ZbH.l0.succ];simp only [ZbH.l0.step]
  rw [ZaK (by omega),cond_true,Zfs n i (by omega),Zlz _ (Nat.lt_of_le_of_lt (Nat.div_le_self _ _) hn)]
  ((try simp (disch:=omega) only [Zam,Zal,Zaj,Zad,Zaq,ZaI,Zaf,Zaw,Zav,Zae,Option.map_some,cond_true,cond_false,Int.sub_zero,Int.toNat_natCast]);(try simp only [Za9,Zc7,Zc9,Zar,Zbj,if_true,if_false]))
  rw [show 2*(ZoU n i:Int)+((n/2^i%2:Nat):Int)=(ZoU n (i+1):Int) by rw [Zp3];omega,show ((i:Int)+1)=((i+1:Nat):Int) by omega]
  exact Zne n k hn hk m (i+1) (by omega)
theorem ZdO (n a b:Int):ZbC n a b=some (decide (a≤n∧n≤b)):=by
 unfold ZbC
 by_cases h1:n≥a<;>by_cases h2:n≤b<;>simp [h1,h2]<;>omega
theorem Zlx (n a b:Int):Zhp n a b=some (decide (a≤n∧n≤b)):=ZdO n a b
theorem ZuE (n k:Nat) (hk:k≤16) (hn:n<2^k):Zel (n:Int) (k:Int)=some true:=by
 unfold Zel
 have hp:2^k≤2^16:=Nat.pow_le_pow_right (by omega) hk
 rw [ZdO]
 simp only [Zae]
 have h1:decide ((0:Int)≤(k:Int)∧(k:Int)≤16)=true:=by simp;omega
 have:=ZeV 1 k (by omega) (by omega)
 rw [show ((1:Nat):Int)=1 from rfl] at this
 rw [h1,cond_true,this]
 ((try simp (disch:=omega) only [Zam,Zal,Zaj,Zad,Zaq,ZaI,Zaf,Zaw,Zav,Zae,Option.map_some,cond_true,cond_false,Int.sub_zero,Int.toNat_natCast]);(try simp only [Za9,Zc7,Zc9,Zar,Zbj,if_true,if_false]))
 rw [ZdO]
 have h2:decide ((0:Int)≤(n:Int)∧(n:Int)≤((1*2^k:Nat):Int)-1)=true:=by
  rw [decide_eq_true_eq];omega
 rw [h2];rfl
theorem Zs0 (n k:Nat) (hk:k≤16) (hn:n<2^k):ZbH (n:Int) (k:Int)=some (ZoU n k:Int):=by
 have hp:2^k≤2^16:=Nat.pow_le_pow_right (by omega) hk
 unfold ZbH
 rw [ZuE n k hk hn]
 simp only [Zae,Bool.not_true,cond_false]
 have:=Zne n k (by omega) (by omega) k 0 (by omega)
 rw [ZaC]
 rw [show (ZoU n 0:Int)=0 from rfl,show ((0:Nat):Int)=0 from rfl] at this
 rw [this];rfl
theorem Zrc (n k:Nat) (hn:n<4611686018427387904) (hk:k≤60):∀(m i:Nat),i+m=k→Zdg.l0 (m+1) (((n/2^i:Nat):Int),(k:Int),(ZoU n i:Int),(i:Int))=some (ZoU n k:Int)
 | 0,i,hi=>by
  rw [Zdg.l0.succ];simp only [Zdg.l0.step]
  rw [ZaL (by omega)]
  have:i=k:=by omega
  subst this;rfl
 | m+1,i,hi=>by
  have ht:=ZoT n i
  have hp:2^i≤2^60:=Nat.pow_le_pow_right (by omega) (by omega)
  have hm:n/2^i%2<2:=Nat.mod_lt _ (by omega)
  have hdn:n/2^i≤n:=Nat.div_le_self _ _
  have hts:ZoU n (i+1)=2*ZoU n i+n/2^i%2:=Zp3 n i
  have hq:n/2^(i+1)=n/2^i/2:=by rw [Nat.pow_succ,←Nat.div_div_eq_div_mul]
  have ih:=Zrc n k hn hk m (i+1) (by omega)
  rw [hq] at ih
  rw [Zdg.l0.succ];simp only [Zdg.l0.step]
  rw [ZaK (by omega),cond_true]
  generalize n/2^i=q at *
  ((try simp (disch:=omega) only [Zam,Zal,Zaj,Zad,Zaq,ZaI,Zaf,Zaw,Zav,Zae,Option.map_some,cond_true,cond_false,Int.sub_zero,Int.toNat_natCast]);(try simp only [Za9,Zc7,Zc9,Zar,Zbj,if_true,if_false]))
  rw [show 2*(ZoU n i:Int)+(q:Int)%2=(ZoU n (i+1):Int) by omega,show ((i:Int)+1)=((i+1:Nat):Int) by omega,
   show (q:Int)/2=((q/2:Nat):Int) by omega]
  exact ih
theorem ZwJ (n k:Nat) (hn:n<4611686018427387904) (hk:k≤60):Zdg (n:Int) (k:Int)=some (ZoU n k:Int):=by
 unfold Zdg
 have:=Zrc n k hn hk k 0 (by omega)
 rw [ZaC]
 simp only [Nat.pow_zero,Nat.div_one] at this
 rw [show (ZoU n 0:Int)=0 from rfl,show ((0:Nat):Int)=0 from rfl] at this
 rw [this];rfl
def msb (c k:Nat):List Bool:=(ZbS c k).reverse
theorem ZqF:∀(l:List Bool),ZbS (Zcy l) l.length=l:=by
 intro l
 apply List.ext_getElem
 ·rw [Zak]
 ·intro i h1 h2
  rw [Zje _ _ _ h2]
  induction l generalizing i with
  | nil=>simp at h2
  | cons b l ih=>
   cases i with
   | zero=>
    simp only [Zcy,List.getElem_cons_zero]
    rw [Nat.testBit_zero]
    cases b<;>simp<;>omega
   | succ i=>
    simp only [Zcy,List.getElem_cons_succ]
    rw [Nat.testBit_succ,show (b.toNat+2*Zcy l)/2=Zcy l by cases b<;>simp<;>omega]
    exact ih i (by rw [Zak];simpa using h2) (by simpa using h2)
theorem ZqG (n k:Nat):ZbS (ZoU n k) k=msb n k:=by
 have:=ZqF (ZbS n k).reverse
 rw [List.length_reverse,Zak] at this
 exact this
end Ev
end
section
namespace Ev
open Go
def Zdo:Str→List Bool
 | []=>[]
 | c::s=>ZbS c.toNat 8++Zdo s
theorem ZcZ:∀s:Str,(Zdo s).length=8*s.length
 | []=>rfl
 | c::s=>by simp [Zdo,Zak,ZcZ s];omega
theorem ZjK:∀s t:Str,Zdo (s++t)=Zdo s++Zdo t
 | [],t=>rfl
 | c::s,t=>by simp [Zdo,ZjK s t]
theorem ZoM:∀(s:Str) (n:Nat) (h:n<8*s.length),(Zdo s)[n]'(by rw [ZcZ];exact h)=((s.getD (n/8) 0).toNat).testBit (n%8)
 | [],n,h=>by simp at h
 | c::s,n,h=>by
  simp only [Zdo]
  by_cases h8:n<8
  ·rw [List.getElem_append_left (by rw [Zak];exact h8),Zje _ _ _ h8,show n/8=0 by omega,show n%8=n by omega];rfl
  ·rw [List.getElem_append_right (by rw [Zak];omega)]
   simp only [Zak]
   have:=ZoM s (n-8) (by simp at h;omega)
   rw [this,show n/8=(n-8)/8+1 by omega,show (n-8)%8=n%8 by omega];rfl
def Rs (s:Str) (at_:Int) (bad:Bool):Option (List Bool)→Prop
 | some l=>bad=false∧∃n:Nat,at_=(n:Int)∧n≤8*s.length∧(Zdo s).drop n=l
 | none=>bad=true∧∃n:Nat,at_=(n:Int)∧n≤8*s.length
theorem Rs.at {s:Str} {at_:Int} {bad:Bool} {m:Option (List Bool)} (h:Rs s at_ bad m):∃n:Nat,at_=(n:Int)∧n≤8*s.length:=by
 cases m with
 | none=>exact h.2
 | some l=>obtain ⟨_,n,a,b,_⟩:=h;exact ⟨n,a,b⟩
theorem Rs.fail {s:Str} {at_:Int} {bad:Bool} {m:Option (List Bool)} (h:Rs s at_ bad m):Rs s at_ true none:=⟨rfl,h.at⟩
theorem Rs.len {s:Str} {at_:Int} {bad:Bool} {l:List Bool} (h:Rs s at_ bad (some l)):at_=((8*s.length-l.length:Nat):Int)∧l.length≤8*s.length:=by
 obtain ⟨_,n,a,b,c⟩:=h
 have:=congrArg List.length c
 rw [List.length_drop,ZcZ] at this
 omega
theorem Rs.start (s:Str):Rs s 0 false (some (Zdo s)):=⟨rfl,0,rfl,by omega,rfl⟩
def ZnI:Option (List Bool)→Option (List Bool)
 | some (_::l)=>some l
 | _=>none
def ZxC (s:Str) (m:Option (List Bool)) (r:Int×Str×Int×Bool):Prop:=
 r.2.1=s∧∃b:Bool,r.1=((b.toNat:Nat):Int)∧Rs s r.2.2.1 r.2.2.2 (ZnI m)∧∀c l,m=some (c::l)→b=c
theorem Zsp (s:Str) (n:Nat) (bad:Bool) (hs:s.length≤1000000000) (hlt:n<8*s.length) :
  ZiJ s (n:Int) bad=some (((((s.getD (n/8) 0).toNat.testBit (n%8)).toNat:Nat):Int),s,((n+1:Nat):Int),bad):=by
 unfold ZiJ
 have hmod:((n:Int)).tmod 8=((n%8:Nat):Int):=by rw [Zaw (by omega)];omega
 have hdiv:((n:Int)).tdiv 8=((n/8:Nat):Int):=by rw [Zav (by omega)];omega
 simp only [hmod,hdiv]
 ((try simp (disch:=omega) only [Zam,Zal,Zaj,Zad,Zaq,ZaI,Zaf,Zaw,Zav,Zae,Option.map_some,cond_true,cond_false,Int.sub_zero,Int.toNat_natCast]);(try simp only [Za9,Zc7,Zc9,Zar,Zbj,if_true,if_false]))
 rw [if_neg (by omega)]
 have hc:(s.getD (n/8) 0).toNat<256:=(s.getD (n/8) 0).toNat_lt
 have hbit:Zk8 .i64 (Znk .i64 (w64 (((s.getD (n/8) 0).toNat:Nat):Int)) ((n%8:Nat):Int)) 1=((((s.getD (n/8) 0).toNat.testBit (n%8)).toNat:Nat):Int):=by
  rw [Zaf (by omega) (by omega),Zfs _ _ (by omega),Zlz _ (Nat.lt_of_le_of_lt (Nat.div_le_self _ _) (by omega)),Zd4]
 rw [hbit,show ((n:Int)+1)=((n+1:Nat):Int) by omega]
theorem Zke {s:Str} {at_:Int} {bad:Bool} {m:Option (List Bool)} (hs:s.length≤1000000000) (h:Rs s at_ bad m):Ret (ZiJ s at_ bad) (ZxC s m):=by
 obtain ⟨n,rfl,hn⟩:=h.at
 unfold ZiJ
 by_cases hlt:n<8*s.length
 ·have hb0:=Zsp s n bad hs hlt
  unfold ZiJ at hb0
  rw [hb0]
  refine .pure ⟨rfl,_,rfl,?_,?_⟩
  ·cases m with
   | none=>exact ⟨h.1,n+1,rfl,by omega⟩
   | some l=>
    obtain ⟨hb,n',e,_,hd⟩:=h
    have:n'=n:=by omega
    subst this
    rw [List.drop_eq_getElem_cons (by rw [ZcZ];exact hlt)] at hd
    subst hd
    exact ⟨hb,n'+1,rfl,by omega,rfl⟩
  ·rintro c l rfl
   obtain ⟨hb,n',e,_,hd⟩:=h
   have:n'=n:=by omega
   subst this
   rw [List.drop_eq_getElem_cons (by rw [ZcZ];exact hlt),ZoM s n' hlt] at hd
   exact (List.cons.inj hd).1
 ·((try simp (disch:=omega) only [Zam,Zal,Zaj,Zad,Zaq,ZaI,Zaf,Zaw,Zav,Zae,Option.map_some,cond_true,cond_false,Int.sub_zero,Int.toNat_natCast]);(try simp only [Za9,Zc7,Zc9,Zar,Zbj,if_true,if_false]))
  rw [if_pos (by omega)]
  refine .pure ⟨rfl,false,rfl,?_,?_⟩
  ·cases m with
   | none=>exact ⟨rfl,n,rfl,hn⟩
   | some l=>
    have:=h.len
    have:l=[]:=List.length_eq_zero_iff.1 (by omega)
    subst this
    exact ⟨rfl,n,rfl,hn⟩
  ·rintro c l rfl
   have:=h.len
   simp at this;omega
theorem ZvV (s:Str) (n:Nat) (bad:Bool) (hs:s.length≤1000000000) (hn:n≤8*s.length):Zj8 s (n:Int) bad=ZiJ s (n:Int) bad:=by
 unfold Zj8 ZiJ
 have hmod:((n:Int)).tmod 8=((n%8:Nat):Int):=by rw [Zaw (by omega)];omega
 have hdiv:((n:Int)).tdiv 8=((n/8:Nat):Int):=by rw [Zav (by omega)];omega
 simp only [hmod,hdiv]
 by_cases hlt:n<8*s.length
 ·((try simp (disch:=omega) only [Zam,Zal,Zaj,Zad,Zaq,ZaI,Zaf,Zaw,Zav,Zae,Option.map_some,cond_true,cond_false,Int.sub_zero,Int.toNat_natCast]);(try simp only [Za9,Zc7,Zc9,Zar,Zbj,if_true,if_false]))
  rw [if_neg (by omega),if_neg (by omega),Zh5 _ (by omega)]
  have hc:(s.getD (n/8) 0).toNat<256:=(s.getD (n/8) 0).toNat_lt
  have hp:=Nat.two_pow_pos (n%8)
  rw [Zaf (by omega) (by omega),Zfs _ _ (by omega),Zlz _ (Nat.lt_of_le_of_lt (Nat.div_le_self _ _) (by omega))]
  simp only [Zae]
  rw [Zab _ (by
   simp only [bne_iff_ne,ne_eq];intro h0;have h0:2^(n%8)=0:=by exact_mod_cast h0
   rw [h0] at hp;exact absurd hp (by omega))]
  have hle:(s.getD (n/8) 0).toNat/2^(n%8)≤(s.getD (n/8) 0).toNat:=Nat.div_le_self _ _
  rw [Zav (Int.natCast_nonneg _),←Int.natCast_ediv]
  generalize (s.getD (n/8) 0).toNat/2^(n%8)=q at *
  ((try simp (disch:=omega) only [Zam,Zal,Zaj,Zad,Zaq,ZaI,Zaf,Zaw,Zav,Zae,Option.map_some,cond_true,cond_false,Int.sub_zero,Int.toNat_natCast]);(try simp only [Za9,Zc7,Zc9,Zar,Zbj,if_true,if_false]))
  rfl
 ·((try simp (disch:=omega) only [Zam,Zal,Zaj,Zad,Zaq,ZaI,Zaf,Zaw,Zav,Zae,Option.map_some,cond_true,cond_false,Int.sub_zero,Int.toNat_natCast]);(try simp only [Za9,Zc7,Zc9,Zar,Zbj,if_true,if_false]))
  rw [if_pos (by omega),if_pos (by omega)]
theorem Zsm {s:Str} {at_:Int} {bad:Bool} {m:Option (List Bool)} (hs:s.length≤1000000000) (h:Rs s at_ bad m):Ret (Zj8 s at_ bad) (ZxC s m):=by
 obtain ⟨n,rfl,hn⟩:=h.at
 rw [ZvV s n bad hs hn];exact Zke hs h
def ZbO (k:Nat):Option (List Bool)→Option (List Bool)
 | some l=>if k≤l.length then some (l.drop k) else none
 | none=>none
def ZpN (s:Str) (k:Nat) (m:Option (List Bool)) (r:Int×Str×Int×Bool):Prop:=
 r.2.1=s∧(∃v:Nat,r.1=(v:Int)∧v<2^k∧∀l,m=some l→k≤l.length→v=Zcy (l.take k))∧Rs s r.2.2.1 r.2.2.2 (ZbO k m)
theorem ZqN (m:Option (List Bool)):ZbO 0 m=m:=by cases m<;>simp [ZbO]
theorem ZqO (k:Nat) (m:Option (List Bool)):ZbO (k+1) m=ZnI (ZbO k m):=by
 cases m with
 | none=>rfl
 | some l=>
  simp only [ZbO]
  by_cases h:k+1≤l.length
  ·rw [if_pos h,if_pos (by omega),List.drop_eq_getElem_cons (by omega:k<l.length)];rfl
  ·rw [if_neg h]
   by_cases h2:k≤l.length
   ·rw [if_pos h2,List.drop_eq_nil_of_le (by omega)];rfl
   ·rw [if_neg h2];rfl
theorem Zih (l:List Bool) (k:Nat) (h:k<l.length):Zcy (l.take (k+1))=Zcy (l.take k)+(l[k]).toNat*2^k:=by
 rw [List.take_succ_eq_append_getElem h,ZeG,List.length_take,Nat.min_eq_left (by omega)]
 simp only [Zcy,Nat.mul_zero,Nat.add_zero]
 rw [Nat.mul_comm (2^_)]
theorem Zv0 {s:Str} (hs:s.length≤1000000000) (k:Nat) (hk:k≤60) (m0:Option (List Bool)):∀(j i v:Nat) (at_:Int) (bad:Bool),i+j=k→v<2^i→(∀l,m0=some l→i≤l.length→v=Zcy (l.take i))→Rs s at_ bad (ZbO i m0)→
  Ret (Ze2.l0 (j+1) ((v:Int),(k:Int),(i:Int),s,at_,bad)) (ZpN s k m0)
 | 0,i,v,at_,bad,hi,hv,hl,h=>by
  rw [Ze2.l0.succ];simp only [Ze2.l0.step]
  rw [ZaL (by omega)]
  have:i=k:=by omega
  subst this
  exact .pure ⟨rfl,⟨v,rfl,hv,hl⟩,h⟩
 | j+1,i,v,at_,bad,hi,hv,hl,h=>by
  rw [Ze2.l0.succ];simp only [Ze2.l0.step]
  rw [ZaK (by omega),cond_true]
  refine .bind (Zke hs h) ?_
  rintro ⟨r,s',at',bad'⟩ ⟨rfl,b,rfl,h2,h3⟩
  dsimp only at h2 h3 ⊢
  have hb:b.toNat≤1:=by cases b<;>decide
  have hp:2^i≤2^60:=Nat.pow_le_pow_right (by omega) (by omega)
  have hle:b.toNat*2^i≤1*2^i:=Nat.mul_le_mul_right _ hb
  ((try simp (disch:=omega) only [Zam,Zal,Zaj,Zad,Zaq,ZaI,Zaf,Zaw,Zav,Zae,Option.map_some,cond_true,cond_false,Int.sub_zero,Int.toNat_natCast]);(try simp only [Za9,Zc7,Zc9,Zar,Zbj,if_true,if_false]))
  rw [ZeV _ _ (by omega) (by omega),Zks _ _ (by omega) (by omega),Zmf v _ i hv,show ((i:Int)+1)=((i+1:Nat):Int) by omega]
  refine Zv0 hs k hk m0 j (i+1) _ at' bad' (by omega) (by rw [Nat.pow_succ];omega) (fun l hm hil=>?_) (by rw [ZqO];exact h2)
  subst hm
  have hlen:i<l.length:=by omega
  rw [Zih l i hlen,←hl l rfl (by omega)]
  have:=h3 l[i] (l.drop (i+1)) (by simp only [ZbO];rw [if_pos (by omega),List.drop_eq_getElem_cons hlen])
  rw [this]
theorem ZeK {s:Str} {at_:Int} {bad:Bool} {m:Option (List Bool)} (hs:s.length≤1000000000) (k:Nat) (hk:k≤60) (h:Rs s at_ bad m):Ret (Ze2 (k:Int) s at_ bad) (ZpN s k m):=by
 unfold Ze2
 rw [ZaC]
 refine .bind (Zv0 hs k hk m k 0 0 at_ bad (by omega) (by simp) (fun l _ _=>by simp [Zcy]) (by rw [ZqN];exact h)) ?_
 rintro ⟨r,s',at',bad'⟩ hr
 exact .pure hr
theorem ZvU {s:Str} (hs:s.length≤1000000000) (k:Nat) (hk:k≤60) (m0:Option (List Bool)):∀(j i v:Nat) (at_:Int) (bad:Bool),i+j=k→v<2^i→(∀l,m0=some l→i≤l.length→v=Zcy (l.take i))→Rs s at_ bad (ZbO i m0)→
  Ret (Zfc.l0 (j+1) ((k:Int),(v:Int),(i:Int),s,at_,bad)) (ZpN s k m0)
 | 0,i,v,at_,bad,hi,hv,hl,h=>by
  rw [Zfc.l0.succ];simp only [Zfc.l0.step]
  rw [ZaL (by omega)]
  have:i=k:=by omega
  subst this
  exact .pure ⟨rfl,⟨v,rfl,hv,hl⟩,h⟩
 | j+1,i,v,at_,bad,hi,hv,hl,h=>by
  rw [Zfc.l0.succ];simp only [Zfc.l0.step]
  rw [ZaK (by omega),cond_true]
  refine .bind (Zsm hs h) ?_
  rintro ⟨r,s',at',bad'⟩ ⟨rfl,b,rfl,h2,h3⟩
  dsimp only at h2 h3 ⊢
  have hb:b.toNat≤1:=by cases b<;>decide
  have hp:2^i≤2^60:=Nat.pow_le_pow_right (by omega) (by omega)
  have hle:b.toNat*2^i≤1*2^i:=Nat.mul_le_mul_right _ hb
  rw [Zh5 i (by omega)]
  simp only [Zae]
  rw [←Int.natCast_mul]
  ((try simp (disch:=omega) only [Zam,Zal,Zaj,Zad,Zaq,ZaI,Zaf,Zaw,Zav,Zae,Option.map_some,cond_true,cond_false,Int.sub_zero,Int.toNat_natCast]);(try simp only [Za9,Zc7,Zc9,Zar,Zbj,if_true,if_false]))
  rw [←Int.natCast_add,show ((i:Int)+1)=((i+1:Nat):Int) by omega]
  refine ZvU hs k hk m0 j (i+1) _ at' bad' (by omega) (by rw [Nat.pow_succ];omega) (fun l hm hil=>?_) (by rw [ZqO];exact h2)
  subst hm
  have hlen:i<l.length:=by omega
  rw [Zih l i hlen,←hl l rfl (by omega)]
  have:=h3 l[i] (l.drop (i+1)) (by simp only [ZbO];rw [if_pos (by omega),List.drop_eq_getElem_cons hlen])
  rw [this]
theorem Zej {s:Str} {at_:Int} {bad:Bool} {m:Option (List Bool)} (hs:s.length≤1000000000) (k:Nat) (hk:k≤60) (h:Rs s at_ bad m):Ret (Zfc (k:Int) s at_ bad) (ZpN s k m):=by
 unfold Zfc
 rw [ZaC]
 refine .bind (ZvU hs k hk m k 0 0 at_ bad (by omega) (by simp) (fun l _ _=>by simp [Zcy]) (by rw [ZqN];exact h)) ?_
 rintro ⟨r,s',at',bad'⟩ hr
 exact .pure hr
def ZdU:Option (List Bool)→Option (List Bool)
 | some l=>if Zcy (l.take (l.length%8))=0 then some (l.drop (l.length%8)) else none
 | none=>none
theorem Zh4 (b:Bool) (l:List Bool) (h:(l.length+1)%8≠0):ZdU (some (b::l))=if b then none else ZdU (some l):=by
 have e:(l.length+1)%8=l.length%8+1:=by omega
 simp only [ZdU,List.length_cons,e,List.take_succ_cons,List.drop_succ_cons,Zcy]
 cases b
 ·by_cases h0:Zcy (List.take (l.length%8) l)=0
  ·simp [h0]
  ·simp [h0];omega
 ·simp
theorem Ztl {s:Str} (hs:s.length≤1000000000):∀(j:Nat) (at_:Int) (bad:Bool) (m:Option (List Bool)),Rs s at_ bad m→(8-at_.toNat%8)%8<j→
  Ret (Zee.l0 j (s,at_,bad)) fun r=>r.1=s∧Rs s r.2.1 r.2.2 (ZdU m)
 | 0,_,_,_,_,h=>absurd h (by omega)
 | j+1,at_,bad,m,h,hj=>by
  obtain ⟨n,rfl,hn⟩:=h.at
  rw [Zee.l0.succ];simp only [Zee.l0.step]
  have hmod:((n:Int)).tmod 8=((n%8:Nat):Int):=by rw [Zaw (by omega)];omega
  rw [hmod]
  ((try simp (disch:=omega) only [Zam,Zal,Zaj,Zad,Zaq,ZaI,Zaf,Zaw,Zav,Zae,Option.map_some,cond_true,cond_false,Int.sub_zero,Int.toNat_natCast]);(try simp only [Za9,Zc7,Zc9,Zar,Zbj,if_true,if_false]))
  refine .ite (fun h0=>.pure ⟨rfl,?_⟩) fun h0=>?_
  ·cases m with
   | none=>exact h
   | some l=>
    have hl:=h.len
    have:l.length%8=0:=by omega
    simp only [ZdU,this,List.take_zero,List.drop_zero,Zcy,if_true];exact h
  ·have hlt:n<8*s.length:=by omega
   have hst:=Zke hs h
   rw [Zsp s n bad hs hlt] at hst ⊢
   obtain ⟨r0,hr0,hst⟩:=hst
   cases hr0
   obtain ⟨_,b,hb,h2,h3⟩:=hst
   dsimp only at hb h2 h3
   have hbb:(s.getD (n/8) 0).toNat.testBit (n%8)=b:=by
    generalize (s.getD (n/8) 0).toNat.testBit (n%8)=c at hb
    revert hb;cases b<;>cases c<;>simp
   rw [hbb]
   simp only [Zae]
   have fin:∀bad2,Rs s ((n+1:Nat):Int) bad2 (match m with
     | some (c::l)=>if b then none else some l
     | _=>none)→Ret (Zee.l0 j (s,((n+1:Nat):Int),bad2)) fun r=>r.1=s∧Rs s r.2.1 r.2.2 (ZdU m):=fun bad2 h4=>by
    refine (Ztl hs j _ bad2 _ h4 (by omega)).mono fun r ⟨e1,e2⟩=>⟨e1,?_⟩
    cases m with
    | none=>exact e2
    | some l=>
     cases l with
     | nil=>have:=h.len;simp at this;omega
     | cons c l=>
      have hl:=h.len
      rw [Zh4 c l (by simp at hl;omega),←h3 c l rfl]
      cases b<;>exact e2
   ((try simp (disch:=omega) only [Zam,Zal,Zaj,Zad,Zaq,ZaI,Zaf,Zaw,Zav,Zae,Option.map_some,cond_true,cond_false,Int.sub_zero,Int.toNat_natCast]);(try simp only [Za9,Zc7,Zc9,Zar,Zbj,if_true,if_false]))
   refine .ite (fun hb0=>fin bad ?_) fun hb0=>fin true ?_
   ·have:b=false:=by cases b<;>simp at hb0 ⊢
    subst this
    cases m with
    | none=>exact h2
    | some l=>cases l<;>exact h2
   ·have:b=true:=by cases b<;>simp at hb0 ⊢
    subst this
    cases m with
    | none=>exact h2.fail
    | some l=>cases l<;>exact h2.fail
theorem Ztk {s:Str} {at_:Int} {bad:Bool} {m:Option (List Bool)} (hs:s.length≤1000000000) (h:Rs s at_ bad m):Ret (Zee s at_ bad) fun r=>r.1=s∧Rs s r.2.1 r.2.2 (ZdU m):=by
 unfold Zee
 refine .bind (Ztl hs 9 at_ bad m h (by omega)) ?_
 rintro ⟨s',a,b⟩ hr
 exact .pure hr
theorem Zqk {s:Str} (hs:s.length≤1000000000):∀(j v:Nat) (at_:Int) (bad:Bool) (m:Option (List Bool)),Rs s at_ bad m→(8-at_.toNat%8)%8<j→v≤100-8*((8-at_.toNat%8)%8)→
  Ret (ZcS.l0 j ((v:Int),s,at_,bad)) fun r=>r.2.1=s∧∃q:Nat,r.1=(q:Int)∧v≤q∧((v=q→Rs s r.2.2.1 r.2.2.2 (ZdU m))∧(v≠q→ZdU m=none∧∃m',Rs s r.2.2.1 r.2.2.2 m'))
 | 0,_,_,_,_,_,h,_=>absurd h (by omega)
 | j+1,v,at_,bad,m,h,hj,hv=>by
  obtain ⟨n,rfl,hn⟩:=h.at
  rw [ZcS.l0.succ];simp only [ZcS.l0.step]
  have hmod:((n:Int)).tmod 8=((n%8:Nat):Int):=by rw [Zaw (by omega)];omega
  rw [hmod]
  ((try simp (disch:=omega) only [Zam,Zal,Zaj,Zad,Zaq,ZaI,Zaf,Zaw,Zav,Zae,Option.map_some,cond_true,cond_false,Int.sub_zero,Int.toNat_natCast]);(try simp only [Za9,Zc7,Zc9,Zar,Zbj,if_true,if_false]))
  refine .ite (fun h0=>.pure ⟨rfl,v,rfl,Nat.le_refl _,fun _=>?_,fun h=>absurd rfl h⟩) fun h0=>?_
  ·cases m with
   | none=>exact h
   | some l=>
    have hl:=h.len
    have:l.length%8=0:=by omega
    simp only [ZdU,this,List.take_zero,List.drop_zero,Zcy,if_true];exact h
  ·have hlt:n<8*s.length:=by omega
   have hst:=Zke hs h
   rw [ZvV s n bad hs hn]
   rw [Zsp s n bad hs hlt] at hst ⊢
   obtain ⟨r0,hr0,hst⟩:=hst
   cases hr0
   obtain ⟨_,b,hb,h2,h3⟩:=hst
   dsimp only at hb h2 h3
   have hbb:(s.getD (n/8) 0).toNat.testBit (n%8)=b:=by
    generalize (s.getD (n/8) 0).toNat.testBit (n%8)=c at hb
    revert hb;cases b<;>cases c<;>simp
   rw [hbb]
   simp only [Zae]
   have hb1:b.toNat≤1:=by cases b<;>decide
   ((try simp (disch:=omega) only [Zam,Zal,Zaj,Zad,Zaq,ZaI,Zaf,Zaw,Zav,Zae,Option.map_some,cond_true,cond_false,Int.sub_zero,Int.toNat_natCast]);(try simp only [Za9,Zc7,Zc9,Zar,Zbj,if_true,if_false]))
   rw [←Int.natCast_add]
   refine (Zqk hs j (v+b.toNat) _ bad _ h2 (by omega) (by omega)).mono fun r ⟨e1,q,e2,e3,e4,e5⟩=>⟨e1,q,e2,by omega,fun hq=>?_,fun hq=>?_⟩
   ·have:b=false:=by cases b<;>simp at e3 ⊢<;>omega
    subst this
    have e4:=e4 (by simp;omega)
    cases m with
    | none=>exact e4
    | some l=>
     cases l with
     | nil=>have:=h.len;simp at this;omega
     | cons c l=>
      have hl:=h.len
      rw [Zh4 c l (by simp at hl;omega),←h3 c l rfl]
      exact e4
   ·by_cases hq2:v+b.toNat=q
    ·refine ⟨?_,_,e4 hq2⟩
     have:b=true:=by cases b<;>simp at hq2 ⊢;omega
     subst this
     cases m with
     | none=>rfl
     | some l=>
      cases l with
      | nil=>have:=h.len;simp at this;omega
      | cons c l=>
       have hl:=h.len
       rw [Zh4 c l (by simp at hl;omega),←h3 c l rfl];rfl
    ·obtain ⟨f1,f2⟩:=e5 hq2
     refine ⟨?_,f2⟩
     cases m with
     | none=>rfl
     | some l=>
      cases l with
      | nil=>have:=h.len;simp at this;omega
      | cons c l=>
       have hl:=h.len
       rw [Zh4 c l (by simp at hl;omega)]
       cases c
       ·exact f1
       ·rfl
theorem Zl3 {s:Str} {at_:Int} {bad:Bool} {m:Option (List Bool)} (hs:s.length≤1000000000) (h:Rs s at_ bad m):Ret (ZcS s at_ bad) fun r=>r.2.1=s∧(r.1=true→Rs s r.2.2.1 r.2.2.2 (ZdU m))∧(r.1=false→ZdU m=none∧∃m',Rs s r.2.2.1 r.2.2.2 m'):=by
 unfold ZcS
 refine .bind (Zqk hs 9 0 at_ bad m h (by omega) (by omega)) ?_
 rintro ⟨v,s',a,b⟩ ⟨e1,q,e2,e3,e4,e5⟩
 dsimp only at e1 e2 e3 e4 e5 ⊢
 subst e2
 refine .pure ⟨e1,fun hq=>e4 ?_,fun hq=>e5 ?_⟩
 ·dsimp only at hq;rw [beq_iff_eq] at hq;omega
 ·dsimp only at hq;rw [beq_eq_false_iff_ne] at hq;omega
end Ev
end
section
namespace Ev
open Go
theorem ZhY (n:Int):IntKind.wrap .u32 n=n%4294967296:=by simp [IntKind.wrap,IntKind.bits,IntKind.signed]
theorem Zfr (x y:Nat) (hx:x<4294967296) (hy:y<4294967296):Zly .u32 (x:Int) (y:Int)=((x^^^y:Nat):Int):=by
 have hz:x^^^y<2^32:=Nat.xor_lt_two_pow (by omega) (by omega)
 unfold Zly
 have e:(BitVec.ofInt IntKind.u32.bits (x:Int)^^^BitVec.ofInt IntKind.u32.bits (y:Int)).toNat=x^^^y:=by
  simp only [BitVec.ofInt_natCast,BitVec.toNat_xor,BitVec.toNat_ofNat,show IntKind.u32.bits=32 from rfl]
  rw [Nat.mod_eq_of_lt (by omega),Nat.mod_eq_of_lt (by omega)]
 rw [e,ZhY];omega
theorem Zrl (x:Nat) (hx:x<4294967296):Zk8 .u32 (x:Int) 1=((x%2:Nat):Int):=by
 have hz:x &&& 1<2^32:=Nat.and_lt_two_pow _ (by omega)
 unfold Zk8
 have e:(BitVec.ofInt IntKind.u32.bits (x:Int) &&& BitVec.ofInt IntKind.u32.bits ((1:Nat):Int)).toNat=x &&& 1:=by
  simp only [BitVec.ofInt_natCast,BitVec.toNat_and,BitVec.toNat_ofNat,show IntKind.u32.bits=32 from rfl]
  rw [Nat.mod_eq_of_lt (by omega),Nat.mod_eq_of_lt (by omega)]
 rw [show (1:Int)=((1:Nat):Int) from rfl,e,ZhY,Nat.and_one_is_mod];omega
theorem Zrj (x:Nat):Znk .u32 (x:Int) 1=((x/2:Nat):Int):=by
 unfold Znk
 rw [show min (1:Int).toNat IntKind.u32.bits=1 from rfl,show ((2:Int)^1)=2 by rfl,Int.fdiv_eq_ediv_of_nonneg _ (by omega)]
 omega
def ZhQ (c:Nat):Nat:=if c%2=1 then c/2^^^3988292384 else c/2
def Zh9:Nat→Nat→Nat
 | 0,c=>c
 | n+1,c=>Zh9 n (ZhQ c)
def Zgp (c:Nat) (b:UInt8):Nat:=Zh9 8 (c^^^b.toNat)
def ZpS (text:Str):Nat:=text.foldl Zgp 4294967295^^^4294967295
theorem ZkE {c:Nat} (h:c<4294967296):ZhQ c<4294967296:=by
 unfold ZhQ
 split
 ·exact Nat.xor_lt_two_pow (n:=32) (by omega) (by omega)
 ·omega
theorem Zm3:∀{n c:Nat},c<4294967296→Zh9 n c<4294967296
 | 0,c,h=>h
 | n+1,c,h=>Zm3 (n:=n) (ZkE h)
theorem ZkF {c:Nat} {b:UInt8} (h:c<4294967296):Zgp c b<4294967296:=
 Zm3 (Nat.xor_lt_two_pow (n:=32) (by omega) (by have:=b.toNat_lt;omega))
theorem Zia:∀(text:Str) {c:Nat},c<4294967296→text.foldl Zgp c<4294967296
 | [],_,h=>h
 | b::t,_,h=>Zia t (ZkF h)
theorem ZiW (text:Str):ZpS text<4294967296:=Nat.xor_lt_two_pow (n:=32) (Zia text (by omega)) (by omega)
theorem Zlf (text:Str) (k:Int):∀(j i c:Nat),i+j=8→c<4294967296→ZaM.l0 (j+1) ((c:Int),text,k,(i:Int))=some (((Zh9 j c:Nat):Int),text,k)
 | 0,i,c,hi,hc=>by
  rw [ZaM.l0.succ];simp only [ZaM.l0.step]
  ((try simp (disch:=omega) only [Zam,Zal,Zaj,Zad,Zaq,ZaI,Zaf,Zaw,Zav,Zae,Option.map_some,cond_true,cond_false,Int.sub_zero,Int.toNat_natCast]);(try simp only [Za9,Zc7,Zc9,Zar,Zbj,if_true,if_false]))
  rw [if_neg (by omega)];rfl
 | j+1,i,c,hi,hc=>by
  have ih:=Zlf text k j (i+1) (ZhQ c) (by omega) (ZkE hc)
  rw [ZaM.l0.succ];simp only [ZaM.l0.step]
  ((try simp (disch:=omega) only [Zam,Zal,Zaj,Zad,Zaq,ZaI,Zaf,Zaw,Zav,Zae,Option.map_some,cond_true,cond_false,Int.sub_zero,Int.toNat_natCast]);(try simp only [Za9,Zc7,Zc9,Zar,Zbj,if_true,if_false]))
  rw [if_pos (by omega),Zrj,Zrl c hc]
  have e:Zly .u32 ((c/2:Nat):Int) (IntKind.wrap .u32 (3988292384*((c%2:Nat):Int)))=((ZhQ c:Nat):Int):=by
   rw [ZhY]
   unfold ZhQ
   split
   ·rename_i h1
    rw [h1,show ((3988292384:Int)*((1:Nat):Int)%4294967296)=((3988292384:Nat):Int) by rfl,Zfr _ _ (by omega) (by omega)]
   ·rename_i h1
    have:c%2=0:=by omega
    rw [this,show ((3988292384:Int)*((0:Nat):Int)%4294967296)=((0:Nat):Int) by rfl,Zfr _ _ (by omega) (by omega),Nat.xor_zero]
  rw [e,show ((i:Int)+1)=((i+1:Nat):Int) by omega,ih];rfl
theorem Zle (text:Str) (hs:text.length≤1000000000):∀(j i c:Nat),i+j=text.length→c<4294967296→ZaM.l1 (j+1) ((c:Int),text,(i:Int))=some (((text.drop i).foldl Zgp c:Nat):Int)
 | 0,i,c,hi,hc=>by
  rw [ZaM.l1.succ];simp only [ZaM.l1.step]
  ((try simp (disch:=omega) only [Zam,Zal,Zaj,Zad,Zaq,ZaI,Zaf,Zaw,Zav,Zae,Option.map_some,cond_true,cond_false,Int.sub_zero,Int.toNat_natCast]);(try simp only [Za9,Zc7,Zc9,Zar,Zbj,if_true,if_false]))
  rw [if_neg (by omega),List.drop_eq_nil_of_le (by omega)];rfl
 | j+1,i,c,hi,hc=>by
  have hlt:i<text.length:=by omega
  rw [ZaM.l1.succ];simp only [ZaM.l1.step]
  ((try simp (disch:=omega) only [Zam,Zal,Zaj,Zad,Zaq,ZaI,Zaf,Zaw,Zav,Zae,Option.map_some,cond_true,cond_false,Int.sub_zero,Int.toNat_natCast]);(try simp only [Za9,Zc7,Zc9,Zar,Zbj,if_true,if_false]))
  rw [if_pos (by omega)]
  have hb:(text.getD i 0).toNat<256:=(text.getD i 0).toNat_lt
  rw [ZhY,show (((text.getD i 0).toNat:Int)%4294967296)=(((text.getD i 0).toNat:Nat):Int) by omega,Zfr _ _ hc (by omega)]
  have h0:=Zlf text (i:Int) 8 0 (c^^^(text.getD i 0).toNat) (by omega) (Nat.xor_lt_two_pow (n:=32) (by omega) (by omega))
  rw [show ((0:Nat):Int)=0 from rfl] at h0
  rw [show ((8:Int)).toNat+1=8+1 from rfl,h0]
  simp only [Zae]
  ((try simp (disch:=omega) only [Zam,Zal,Zaj,Zad,Zaq,ZaI,Zaf,Zaw,Zav,Zae,Option.map_some,cond_true,cond_false,Int.sub_zero,Int.toNat_natCast]);(try simp only [Za9,Zc7,Zc9,Zar,Zbj,if_true,if_false]))
  rw [show ((i:Int)+1)=((i+1:Nat):Int) by omega]
  have:=Zle text hs j (i+1) (Zgp c (text.getD i 0)) (by omega) (ZkF hc)
  unfold Zgp at this
  rw [this,List.drop_eq_getElem_cons hlt,Zan hlt];rfl
theorem crc_eq (text:Str) (hs:text.length≤1000000000):crc text=some ((ZpS text:Nat):Int):=by
 unfold crc ZaM
 rw [ZaC]
 have e:Zly .u32 (IntKind.max .u32) 0=((4294967295:Nat):Int):=Zfr 4294967295 0 (by omega) (by omega)
 have h:=Zle text hs text.length 0 4294967295 (by omega) (by omega)
 rw [show ((0:Nat):Int)=0 from rfl] at h
 rw [e,h]
 simp only [Zae,List.drop_zero]
 have hl:=Zia text (c:=4294967295) (by omega)
 have e2:Zly .u32 (IntKind.max .u32) ((text.foldl Zgp 4294967295:Nat):Int)=((ZpS text:Nat):Int):=by
  rw [show IntKind.max .u32=((4294967295:Nat):Int) from rfl,Zfr _ _ (by omega) hl,Nat.xor_comm];rfl
 rw [e2]
 have:=ZiW text
 ((try simp (disch:=omega) only [Zam,Zal,Zaj,Zad,Zaq,ZaI,Zaf,Zaw,Zav,Zae,Option.map_some,cond_true,cond_false,Int.sub_zero,Int.toNat_natCast]);(try simp only [Za9,Zc7,Zc9,Zar,Zbj,if_true,if_false]))
theorem Zra:∀(j i c:Nat),i+j=8→c<4294967296→Zdf.l0 (j+1) ((c:Int),(i:Int))=some ((Zh9 j c:Nat):Int)
 | 0,i,c,hi,hc=>by
  rw [Zdf.l0.succ];simp only [Zdf.l0.step]
  ((try simp (disch:=omega) only [Zam,Zal,Zaj,Zad,Zaq,ZaI,Zaf,Zaw,Zav,Zae,Option.map_some,cond_true,cond_false,Int.sub_zero,Int.toNat_natCast]);(try simp only [Za9,Zc7,Zc9,Zar,Zbj,if_true,if_false]))
  rw [if_neg (by omega)];rfl
 | j+1,i,c,hi,hc=>by
  have ih:=Zra j (i+1) (ZhQ c) (by omega) (ZkE hc)
  rw [Zdf.l0.succ];simp only [Zdf.l0.step]
  ((try simp (disch:=omega) only [Zam,Zal,Zaj,Zad,Zaq,ZaI,Zaf,Zaw,Zav,Zae,Option.map_some,cond_true,cond_false,Int.sub_zero,Int.toNat_natCast]);(try simp only [Za9,Zc7,Zc9,Zar,Zbj,if_true,if_false]))
  rw [if_pos (by omega),show ((i:Int)+1)=((i+1:Nat):Int) by omega,ZhY,show ((c:Int)/2%4294967296)=((c/2:Nat):Int) by omega]
  unfold Zh9
  rw [←ih]
  unfold ZhQ
  by_cases h:c%2=1
  ·have:=Zfr (c/2) 3988292384 (by omega) (by omega)
   rw [show ((3988292384:Nat):Int)=3988292384 from rfl] at this
   rw [if_pos (by omega),this,if_pos h]
  ·rw [if_neg (by omega),if_neg h]
theorem ZwI (c:Nat) (b:UInt8) (hc:c<4294967296):Zdf (c:Int) ((b.toNat:Nat):Int)=some ((Zgp c b:Nat):Int):=by
 unfold Zdf
 have hb:b.toNat<256:=b.toNat_lt
 have h0:=Zra 8 0 (c^^^b.toNat) (by omega) (Nat.xor_lt_two_pow (n:=32) (by omega) (by omega))
 rw [ZhY,show (((b.toNat:Nat):Int)%4294967296)=((b.toNat:Nat):Int) by omega,Zfr _ _ hc (by omega)]
 rw [show ((0:Nat):Int)=0 from rfl] at h0
 rw [show ((8:Int)-0).toNat+1=8+1 from rfl,h0];rfl
theorem Zrb (text:Str) (hs:text.length≤1000000000):∀(j i c:Nat),i+j=text.length→c<4294967296→Zdl.l0 (j+1) (text,(c:Int),(i:Int))=some (((text.drop i).foldl Zgp c:Nat):Int)
 | 0,i,c,hi,hc=>by
  rw [Zdl.l0.succ];simp only [Zdl.l0.step]
  ((try simp (disch:=omega) only [Zam,Zal,Zaj,Zad,Zaq,ZaI,Zaf,Zaw,Zav,Zae,Option.map_some,cond_true,cond_false,Int.sub_zero,Int.toNat_natCast]);(try simp only [Za9,Zc7,Zc9,Zar,Zbj,if_true,if_false]))
  rw [if_neg (by omega),List.drop_eq_nil_of_le (by omega)];rfl
 | j+1,i,c,hi,hc=>by
  have hlt:i<text.length:=by omega
  rw [Zdl.l0.succ];simp only [Zdl.l0.step]
  ((try simp (disch:=omega) only [Zam,Zal,Zaj,Zad,Zaq,ZaI,Zaf,Zaw,Zav,Zae,Option.map_some,cond_true,cond_false,Int.sub_zero,Int.toNat_natCast]);(try simp only [Za9,Zc7,Zc9,Zar,Zbj,if_true,if_false]))
  rw [if_pos (by omega),ZwI c _ hc]
  ((try simp (disch:=omega) only [Zam,Zal,Zaj,Zad,Zaq,ZaI,Zaf,Zaw,Zav,Zae,Option.map_some,cond_true,cond_false,Int.sub_zero,Int.toNat_natCast]);(try simp only [Za9,Zc7,Zc9,Zar,Zbj,if_true,if_false]))
  rw [show ((i:Int)+1)=((i+1:Nat):Int) by omega,Zrb text hs j (i+1) _ (by omega) (ZkF hc),List.drop_eq_getElem_cons hlt,Zan hlt];rfl
theorem ZnR (text:Str) (hs:text.length≤1000000000):Zdw text=some ((ZpS text:Nat):Int):=by
 unfold Zdw Zdl
 rw [ZaC]
 have e:Zly .u32 0 4294967295=((4294967295:Nat):Int):=Zfr 0 4294967295 (by omega) (by omega)
 have h:=Zrb text hs text.length 0 4294967295 (by omega) (by omega)
 rw [show ((0:Nat):Int)=0 from rfl] at h
 rw [e,h]
 simp only [Zae,List.drop_zero]
 have hl:=Zia text (c:=4294967295) (by omega)
 have e2:Zly .u32 ((text.foldl Zgp 4294967295:Nat):Int) 4294967295=((ZpS text:Nat):Int):=Zfr _ 4294967295 hl (by omega)
 rw [e2]
 have:=ZiW text
 ((try simp (disch:=omega) only [Zam,Zal,Zaj,Zad,Zaq,ZaI,Zaf,Zaw,Zav,Zae,Option.map_some,cond_true,cond_false,Int.sub_zero,Int.toNat_natCast]);(try simp only [Za9,Zc7,Zc9,Zar,Zbj,if_true,if_false]))
end Ev
end
section
namespace Ev
open Go
def zs (ns:List Nat):List Int:=ns.map fun (n:Nat)=>(n:Int)
theorem Zag (ns:List Nat):(zs ns).length=ns.length:=by simp [zs]
theorem ZaN (ns:List Nat) (i:Nat):(zs ns).getD i 0=((ns.getD i 0:Nat):Int):=by
 simp only [zs,List.getD_eq_getElem?_getD,List.getElem?_map]
 cases ns[i]?<;>rfl
theorem Zfy (a b:List Nat):zs (a++b)=zs a++zs b:=by simp [zs]
theorem Zfx (a:List Nat) (i n:Nat):(zs a).set i (n:Int)=zs (a.set i n):=by simp [zs,List.map_set]
theorem ZfS (k n:Nat):List.replicate k (n:Int)=zs (List.replicate k n):=by simp [zs]
def ZbB:List Nat→Nat
 | []=>0
 | n::r=>(if 0<n then 2^(15-n) else 0)+ZbB r
def ZeY:List Nat→Nat
 | []=>0
 | n::r=>(if 0<n then 1 else 0)+ZeY r
theorem ZoR:∀ns:List Nat,ZeY ns≤ns.length
 | []=>Nat.le_refl _
 | n::r=>by
  have:=ZoR r
  simp only [ZeY,List.length_cons]
  split<;>omega
def Zdd (ns:List Nat):Bool:=decide (ns.length≤300)&&(ns.all (fun n=>decide (n≤15))&&(decide (ZbB ns=32768)||decide (ZeY ns=1∧ZbB ns=16384)))
def Zgm (a:Nat):List Nat→Nat
 | []=>a
 | n::r=>Zgm (if 0<n then n else a) r
theorem Zmo (ns:List Nat) (hn:ns.length≤300):∀(j i sum many last:Nat),i+j=ns.length→sum≤32768*i→many≤i→
  Zce.l0 (j+1) ((sum:Int),(many:Int),(last:Int),zs ns,(ns.length:Int),(i:Int)) =
   some (if (ns.drop i).all (fun n=>decide (n≤15)) then .inl (((sum+ZbB (ns.drop i):Nat):Int),((many+ZeY (ns.drop i):Nat):Int),((Zgm last (ns.drop i):Nat):Int)) else .inr false)
 | 0,i,sum,many,last,hi,h1,h2=>by
  rw [Zce.l0.succ];simp only [Zce.l0.step]
  rw [ZaL (by omega),List.drop_eq_nil_of_le (by omega)];rfl
 | j+1,i,sum,many,last,hi,h1,h2=>by
  have hlt:i<ns.length:=by omega
  have hd:ns.drop i=ns[i]::ns.drop (i+1):=List.drop_eq_getElem_cons hlt
  have hg:ns.getD i 0=ns[i]:=Zan hlt
  rw [Zce.l0.succ];simp only [Zce.l0.step]
  rw [ZaK hlt,cond_true,Zab _ (by rw [Zag];exact Zax hlt),Int.toNat_natCast,ZaN,hg,ZdO,hd,List.all_cons]
  simp only [Zae]
  by_cases h15:ns[i]≤15
  ·have e1:decide ((0:Int)≤(ns[i]:Int)∧(ns[i]:Int)≤15)=true:=by simp;omega
   rw [e1,decide_eq_true h15,Bool.true_and]
   simp only [Bool.not_true,cond_false,Za9]
   by_cases h0:0<ns[i]
   ·have hp:2^(15-ns[i])≤2^15:=Nat.pow_le_pow_right (by omega) (by omega)
    have hp0:0<2^(15-ns[i]):=Nat.two_pow_pos _
    have hsh:=ZeV 1 (15-ns[i]) (by omega) (by omega)
    rw [Nat.one_mul,show ((1:Nat):Int)=1 from rfl,show ((15-ns[i]:Nat):Int)=15-(ns[i]:Int) by omega] at hsh
    rw [if_pos (by omega)]
    ((try simp (disch:=omega) only [Zam,Zal,Zaj,Zad,Zaq,ZaI,Zaf,Zaw,Zav,Zae,Option.map_some,cond_true,cond_false,Int.sub_zero,Int.toNat_natCast,hsh]);(try simp only [Za9,Zc7,Zc9,Zar,Zbj,if_true,if_false,hsh]))
    rw [show (sum:Int)+((2^(15-ns[i]):Nat):Int)=((sum+2^(15-ns[i]):Nat):Int) by omega,show (many:Int)+1=((many+1:Nat):Int) by omega,show (i:Int)+1=((i+1:Nat):Int) by omega,
     Zmo ns hn j (i+1) _ _ _ (by omega) (by omega) (by omega)]
    simp only [ZbB,ZeY,Zgm,if_pos h0,Nat.add_assoc]
   ·rw [if_neg (by omega)]
    ((try simp (disch:=omega) only [Zam,Zal,Zaj,Zad,Zaq,ZaI,Zaf,Zaw,Zav,Zae,Option.map_some,cond_true,cond_false,Int.sub_zero,Int.toNat_natCast]);(try simp only [Za9,Zc7,Zc9,Zar,Zbj,if_true,if_false]))
    rw [show (i:Int)+1=((i+1:Nat):Int) by omega,Zmo ns hn j (i+1) _ _ _ (by omega) (by omega) (by omega)]
    simp only [ZbB,ZeY,Zgm,if_neg h0,Nat.zero_add]
  ·have e1:decide ((0:Int)≤(ns[i]:Int)∧(ns[i]:Int)≤15)=false:=by simp;omega
   rw [e1,decide_eq_false h15]
   rfl
theorem Zq0:∀{ns:List Nat} {a:Nat},ZeY ns=1→ZbB ns=2^(15-Zgm a ns)∧0<Zgm a ns
 | [],a,h=>by simp [ZeY] at h
 | n::r,a,h=>by
  simp only [ZeY] at h
  have z:∀r (a:Nat),ZeY r=0→ZbB r=0∧Zgm a r=a:=fun r=>by
   induction r with
   | nil=>intro _ _;exact ⟨rfl,rfl⟩
   | cons m r ih=>
    intro a h
    simp only [ZeY] at h
    by_cases hm:0<m
    ·rw [if_pos hm] at h;omega
    ·rw [if_neg hm] at h;simp only [ZbB,Zgm];rw [if_neg hm,if_neg hm,(ih a (by omega)).1];exact ⟨rfl,(ih a (by omega)).2⟩
  by_cases hn:0<n
  ·rw [if_pos hn] at h
   have h0:ZeY r=0:=by omega
   simp only [ZbB,Zgm,if_pos hn,(z r n h0).1,(z r n h0).2]
   exact ⟨rfl,hn⟩
  ·rw [if_neg hn] at h
   have:=Zq0 (ns:=r) (a:=a) (by omega)
   simp only [ZbB,Zgm,if_neg hn,Nat.zero_add]
   exact this
theorem Zmp (ns:List Nat):Zce (zs ns)=some (Zdd ns):=by
 unfold Zce Zdd
 rw [Zag]
 ((try simp (disch:=omega) only [Zam,Zal,Zaj,Zad,Zaq,ZaI,Zaf,Zaw,Zav,Zae,Option.map_some,cond_true,cond_false,Int.sub_zero,Int.toNat_natCast]);(try simp only [Za9,Zc7,Zc9,Zar,Zbj,if_true,if_false]))
 by_cases hn:ns.length≤300
 ·rw [if_neg (by omega)]
  have h:=Zmo ns hn ns.length 0 0 0 0 (by omega) (by omega) (by omega)
  rw [show ((0:Nat):Int)=0 from rfl,List.drop_zero] at h
  rw [h,decide_eq_true hn]
  cases hall:ns.all (fun n=>decide (n≤15)) with
  | false=>rfl
  | true=>
   simp only [if_true,Zae,Bool.true_and,Nat.zero_add,Zc7]
   by_cases hk:ZbB ns=32768
   ·rw [if_pos (by omega),decide_eq_true hk];rfl
   ·rw [if_neg (by omega),decide_eq_false hk]
    by_cases hu:ZeY ns=1
    ·rw [if_pos (by omega)]
     obtain ⟨e1,e2⟩:=Zq0 (a:=0) hu
     simp only [Zae,Bool.false_or]
     have hl15:Zgm 0 ns≤15∨15<Zgm 0 ns:=by omega
     have:((((Zgm 0 ns:Nat):Int))==1)=decide (ZeY ns=1∧ZbB ns=16384):=by
      rw [Bool.eq_iff_iff,beq_iff_eq,decide_eq_true_eq]
      constructor
      ·intro h1
       have h1:Zgm 0 ns=1:=by omega
       exact ⟨hu,by rw [e1,h1]⟩
      ·rintro ⟨_,h2⟩
       rw [h2] at e1
       have hlt:Zgm 0 ns<15:=by
        rcases Nat.lt_or_ge (Zgm 0 ns) 15 with q | q
        ·exact q
        ·rw [show 15-Zgm 0 ns=0 by omega] at e1;simp at e1
       have:(2:Nat)^14=2^(15-Zgm 0 ns):=by rw [←e1]
       have hcases:Zgm 0 ns=1∨2≤Zgm 0 ns:=by omega
       rcases hcases with q | q
       ·omega
       ·have:2^(15-Zgm 0 ns)<2^14:=Nat.pow_lt_pow_right (by omega) (by omega)
        omega
     rw [this]
    ·rw [if_neg (by omega)]
     have:decide (ZeY ns=1∧ZbB ns=16384)=false:=by simp [hu]
     rw [this];rfl
 ·rw [if_pos (by omega),decide_eq_false hn];rfl
theorem Zas {i:Nat}:(decide ((0:Int)≤(i:Int))&&true)=true:=by simp
theorem Zmw (ns:List Nat) (hn:ns.length≤1000000):∀(j i many:Nat),i+j=ns.length→many≤i→ZcL.l0 (j+1) (zs ns,(many:Int),(i:Int))=some ((many+ZeY (ns.drop i):Nat):Int)
 | 0,i,many,hi,h2=>by
  rw [ZcL.l0.succ];simp only [ZcL.l0.step,Zag]
  rw [ZaL (by omega),List.drop_eq_nil_of_le (by omega)];rfl
 | j+1,i,many,hi,h2=>by
  have hlt:i<ns.length:=by omega
  have hd:ns.drop i=ns[i]::ns.drop (i+1):=List.drop_eq_getElem_cons hlt
  have hg:ns.getD i 0=ns[i]:=Zan hlt
  rw [ZcL.l0.succ];simp only [ZcL.l0.step,Zag]
  rw [ZaK hlt,cond_true,Zab _ Zas,Int.toNat_natCast,ZaN,hg,hd]
  ((try simp (disch:=omega) only [Zam,Zal,Zaj,Zad,Zaq,ZaI,Zaf,Zaw,Zav,Zae,Option.map_some,cond_true,cond_false,Int.sub_zero,Int.toNat_natCast]);(try simp only [Za9,Zc7,Zc9,Zar,Zbj,if_true,if_false]))
  by_cases h0:0<ns[i]
  ·rw [if_pos (by omega),show (many:Int)+1=((many+1:Nat):Int) by omega,show (i:Int)+1=((i+1:Nat):Int) by omega,Zmw ns hn j (i+1) _ (by omega) (by omega)]
   simp only [ZeY,if_pos h0,Nat.add_assoc]
  ·rw [if_neg (by omega),show (i:Int)+1=((i+1:Nat):Int) by omega,Zmw ns hn j (i+1) _ (by omega) (by omega)]
   simp only [ZeY,if_neg h0,Nat.zero_add]
theorem Zq5 (ns:List Nat) (hn:ns.length≤1000000):ZcL (zs ns)=some ((ZeY ns:Nat):Int):=by
 unfold ZcL
 have h:=Zmw ns hn ns.length 0 0 (by omega) (by omega)
 rw [show ((0:Nat):Int)=0 from rfl,List.drop_zero,Nat.zero_add] at h
 rw [Zag,ZaC,h];rfl
theorem ZgV (ns:List Nat) (hn:ns.length≤1000000):∀(j i sum:Nat),i+j=ns.length→sum≤32768*i→
  ZaU.l0 (j+1) (zs ns,(sum:Int),(i:Int))=some (if (ns.drop i).all (fun n=>decide (n≤15)) then .inl (zs ns,((sum+ZbB (ns.drop i):Nat):Int)) else .inr false)
 | 0,i,sum,hi,h1=>by
  rw [ZaU.l0.succ];simp only [ZaU.l0.step,Zag]
  rw [ZaL (by omega),List.drop_eq_nil_of_le (by omega)];rfl
 | j+1,i,sum,hi,h1=>by
  have hlt:i<ns.length:=by omega
  have hd:ns.drop i=ns[i]::ns.drop (i+1):=List.drop_eq_getElem_cons hlt
  have hg:ns.getD i 0=ns[i]:=Zan hlt
  rw [ZaU.l0.succ];simp only [ZaU.l0.step,Zag]
  rw [ZaK hlt,cond_true,Zab _ Zas,Int.toNat_natCast,ZaN,hg,Zlx,hd,List.all_cons]
  simp only [Zae]
  by_cases h15:ns[i]≤15
  ·have e1:decide ((0:Int)≤(ns[i]:Int)∧(ns[i]:Int)≤15)=true:=by simp;omega
   rw [e1,decide_eq_true h15,Bool.true_and]
   simp only [Bool.not_true,cond_false,Za9]
   rw [Zab _ Zas]
   by_cases h0:0<ns[i]
   ·have hp:2^(15-ns[i])≤2^15:=Nat.pow_le_pow_right (by omega) (by omega)
    have hp0:0<2^(15-ns[i]):=Nat.two_pow_pos _
    rw [if_pos (by omega),Zab _ Zas,Zaf (by omega) (by omega),show 15-(ns[i]:Int)=((15-ns[i]:Nat):Int) by omega,Zh5 _ (by omega)]
    ((try simp (disch:=omega) only [Zam,Zal,Zaj,Zad,Zaq,ZaI,Zaf,Zaw,Zav,Zae,Option.map_some,cond_true,cond_false,Int.sub_zero,Int.toNat_natCast]);(try simp only [Za9,Zc7,Zc9,Zar,Zbj,if_true,if_false]))
    rw [show (sum:Int)+((2^(15-ns[i]):Nat):Int)=((sum+2^(15-ns[i]):Nat):Int) by omega,show (i:Int)+1=((i+1:Nat):Int) by omega,
     ZgV ns hn j (i+1) _ (by omega) (by omega)]
    simp only [ZbB,if_pos h0,Nat.add_assoc]
   ·rw [if_neg (by omega)]
    ((try simp (disch:=omega) only [Zam,Zal,Zaj,Zad,Zaq,ZaI,Zaf,Zaw,Zav,Zae,Option.map_some,cond_true,cond_false,Int.sub_zero,Int.toNat_natCast]);(try simp only [Za9,Zc7,Zc9,Zar,Zbj,if_true,if_false]))
    rw [show (i:Int)+1=((i+1:Nat):Int) by omega,ZgV ns hn j (i+1) _ (by omega) (by omega)]
    simp only [ZbB,if_neg h0,Nat.zero_add]
  ·have e1:decide ((0:Int)≤(ns[i]:Int)∧(ns[i]:Int)≤15)=false:=by simp;omega
   rw [e1,decide_eq_false h15]
   rfl
theorem Zfk (ns:List Nat) (hn:ns.length≤1000000):ZaU (zs ns)=some (Zdd ns):=by
 unfold ZaU Zdd
 have h:=ZgV ns hn ns.length 0 0 (by omega) (by omega)
 rw [show ((0:Nat):Int)=0 from rfl,List.drop_zero,Nat.zero_add] at h
 rw [Zag,ZaC,h]
 cases hall:ns.all (fun n=>decide (n≤15)) with
 | false=>rw [Bool.false_and,Bool.and_false];rfl
 | true=>
  simp only [if_true,Zae,Bool.true_and,Zq5 ns hn,Zag]
  have p14:=Zh5 14 (by omega)
  have p15:=Zh5 15 (by omega)
  rw [show ((14:Nat):Int)=14 from rfl] at p14
  rw [show ((15:Nat):Int)=15 from rfl] at p15
  rw [p14,p15]
  simp only [Zae]
  have one:((bif ((ZeY ns:Nat):Int)==1 then some (((ZbB ns:Nat):Int)==((2^14:Nat):Int)) else some false):Option Bool)=some (decide (ZeY ns=1∧ZbB ns=16384)):=by
   by_cases hu:ZeY ns=1
   ·have e:(((ZeY ns:Nat):Int)==1)=true:=by simp [hu]
    rw [e,cond_true]
    congr 1
    rw [Bool.eq_iff_iff,beq_iff_eq,decide_eq_true_eq]
    omega
   ·have e:(((ZeY ns:Nat):Int)==1)=false:=by simp;omega
    rw [e];simp [hu]
  rw [one]
  simp only [Zae]
  by_cases h3:ns.length≤300
  ·have e:decide ((ns.length:Int)≤300)=true:=by simp;omega
   rw [e,cond_true,decide_eq_true h3]
   by_cases hk:ZbB ns=32768
   ·have e:(((ZbB ns:Nat):Int)==((2^15:Nat):Int))=true:=by simp [hk]
    rw [e,decide_eq_true hk];rfl
   ·have e:(((ZbB ns:Nat):Int)==((2^15:Nat):Int))=false:=by rw [beq_eq_false_iff_ne];omega
    rw [e,decide_eq_false hk];rfl
  ·have e:decide ((ns.length:Int)≤300)=false:=by simp;omega
   rw [e,decide_eq_false h3];rfl
end Ev
end
section
namespace Ev
open Go
def base (ns:List Nat):Nat→Nat
 | 0=>0
 | 1=>0
 | l+2=>2*(base ns (l+1)+ns.count (l+1))
def Zds (ns:List Nat) (i:Nat):Nat:=base ns (ns.getD i 0)+(ns.take i).count (ns.getD i 0)
def Zfd (ns:List Nat) (l i:Nat):List Nat:=(List.range ns.length).map fun j=>if (1≤ns.getD j 0∧ns.getD j 0<l)∨(1≤l∧ns.getD j 0=l∧j<i) then Zds ns j else 0
def Zb7 (ns:List Nat):List Nat:=Zfd ns 16 0
theorem Zuh (ns:List Nat):∀l,base ns (l+1)+2*ns.length≤ns.length*2^(l+1)
 | 0=>by simp [base];omega
 | l+1=>by
  have ih:=Zuh ns l
  have hc:=List.count_le_length (a:=l+1) (l:=ns)
  have h1:ns.length*2^(l+1+1)=2*(ns.length*2^(l+1)):=by rw [Nat.pow_succ,←Nat.mul_assoc,Nat.mul_comm]
  have e:base ns (l+1+1)=2*(base ns (l+1)+ns.count (l+1)):=rfl
  omega
theorem Zib (ns:List Nat) (hn:ns.length≤1000) (l:Nat) (hl:l≤16):base ns l≤100000000:=by
 cases l with
 | zero=>simp [base]
 | succ l=>
  have h:=Zuh ns l
  have hp:2^(l+1)≤2^16:=Nat.pow_le_pow_right (by omega) hl
  have:ns.length*2^(l+1)≤1000*2^16:=Nat.mul_le_mul hn hp
  omega
theorem Zhw (ns:List Nat) (l i:Nat):(Zfd ns l i).length=ns.length:=by simp [Zfd]
theorem ZnQ (ns:List Nat) (l:Nat) (hl:1≤l):Zfd ns l ns.length=Zfd ns (l+1) 0:=by
 unfold Zfd
 apply List.map_congr_left
 intro j hj
 have hj:=List.mem_range.1 hj
 by_cases h:(1≤ns.getD j 0∧ns.getD j 0<l)∨(1≤l∧ns.getD j 0=l∧j<ns.length)
 ·rw [if_pos h,if_pos (by omega)]
 ·rw [if_neg h,if_neg (by omega)]
theorem ZnP (ns:List Nat):Zfd ns 1 0=List.replicate ns.length 0:=by
 apply List.ext_getElem
 ·simp [Zfd]
 ·intro i h1 h2
  simp only [Zfd,List.getElem_map,List.getElem_range,List.getElem_replicate]
  rw [if_neg (by omega)]
theorem Zqb (ns:List Nat) (l i:Nat) (hl:1≤l) (hi:i<ns.length):Zfd ns l (i+1)=if ns.getD i 0=l then (Zfd ns l i).set i (base ns l+(ns.take i).count l) else Zfd ns l i:=by
 apply List.ext_getElem
 ·split<;>simp [Zfd]
 ·intro j h1 h2
  have hj:j<ns.length:=by simpa [Zfd] using h1
  by_cases hc:ns.getD i 0=l
  ·simp only [if_pos hc,List.getElem_set]
   by_cases e:i=j
   ·subst e
    rw [if_pos rfl]
    simp only [Zfd,List.getElem_map,List.getElem_range]
    rw [if_pos (by omega)]
    unfold Zds;rw [hc]
   ·rw [if_neg e]
    simp only [Zfd,List.getElem_map,List.getElem_range]
    by_cases h:(1≤ns.getD j 0∧ns.getD j 0<l)∨(1≤l∧ns.getD j 0=l∧j<i)
    ·rw [if_pos h,if_pos (by omega)]
    ·rw [if_neg h,if_neg (by omega)]
  ·simp only [if_neg hc]
   simp only [Zfd,List.getElem_map,List.getElem_range]
   by_cases h:(1≤ns.getD j 0∧ns.getD j 0<l)∨(1≤l∧ns.getD j 0=l∧j<i)
   ·rw [if_pos h,if_pos (by omega)]
   ·rw [if_neg h]
    by_cases e:j=i
    ·subst e;rw [if_neg (by omega)]
    ·rw [if_neg (by omega)]
theorem Zeu (ns:List Nat) (l i:Nat) (hi:i<ns.length):(ns.take (i+1)).count l=(ns.take i).count l+if ns.getD i 0=l then 1 else 0:=by
 rw [List.take_succ_eq_append_getElem hi,List.count_append,Zan hi]
 by_cases h:ns[i]=l<;>simp [h]
theorem Zt9 (ns:List Nat) (hn:ns.length≤1000) (l:Nat) (hl:1≤l) (hl15:l≤15):∀(j i:Nat),i+j=ns.length→
  ZcE.l0 (j+1) (zs ns,((base ns l+(ns.take i).count l:Nat):Int),(l:Int),zs ns,(ns.length:Int),(i:Int),zs (Zfd ns l i))=some (zs ns,((base ns l+ns.count l:Nat):Int),(l:Int),zs (Zfd ns (l+1) 0))
 | 0,i,hi=>by
  have:i=ns.length:=by omega
  subst this
  rw [ZcE.l0.succ];simp only [ZcE.l0.step,Zag]
  rw [ZaL (by omega),List.take_length,ZnQ ns l hl];rfl
 | j+1,i,hi=>by
  have hlt:i<ns.length:=by omega
  have ih:=Zt9 ns hn l hl hl15 j (i+1) (by omega)
  have hb:=Zib ns hn l (by omega)
  have hc:=List.count_le_length (a:=l) (l:=ns.take i)
  rw [List.length_take] at hc
  rw [Zeu ns l i hlt,Zqb ns l i hl hlt] at ih
  rw [ZcE.l0.succ];simp only [ZcE.l0.step,Zag,Zhw]
  rw [ZaK hlt,cond_true,Zab _ Zas,Int.toNat_natCast,ZaN]
  ((try simp (disch:=omega) only [Zam,Zal,Zaj,Zad,Zaq,ZaI,Zaf,Zaw,Zav,Zae,Option.map_some,cond_true,cond_false,Int.sub_zero,Int.toNat_natCast]);(try simp only [Za9,Zc7,Zc9,Zar,Zbj,if_true,if_false]))
  by_cases h:ns.getD i 0=l
  ·rw [if_pos (by omega),Zab _ Zas,show (i:Int)+1=((i+1:Nat):Int) by omega,show ((base ns l+(ns.take i).count l:Nat):Int)+1=((base ns l+((ns.take i).count l+1):Nat):Int) by omega,Zfx]
   rw [if_pos h,if_pos h] at ih
   rw [ih]
  ·rw [if_neg (by omega),show (i:Int)+1=((i+1:Nat):Int) by omega]
   rw [if_neg h,if_neg h] at ih
   simp only [Nat.add_zero] at ih
   rw [ih]
theorem Zt8 (ns:List Nat) (hn:ns.length≤1000):∀(j l:Nat),l+j=16→1≤l→ZcE.l1 (j+1) (zs ns,((base ns l:Nat):Int),(l:Int),zs (Zfd ns l 0))=some (zs (Zb7 ns))
 | 0,l,hl,h1=>by
  have:l=16:=by omega
  subst this
  rw [ZcE.l1.succ];simp only [ZcE.l1.step]
  rfl
 | j+1,l,hl,h1=>by
  have ih:=Zt8 ns hn j (l+1) (by omega) (by omega)
  have h0:=Zt9 ns hn l h1 (by omega) ns.length 0 (by omega)
  have hb:=Zib ns hn l (by omega)
  have hc:=List.count_le_length (a:=l) (l:=ns)
  rw [List.take_zero,List.count_nil,show ((0:Nat):Int)=0 from rfl] at h0
  simp only [Nat.add_zero] at h0
  rw [ZcE.l1.succ];simp only [ZcE.l1.step,Zag]
  ((try simp (disch:=omega) only [Zam,Zal,Zaj,Zad,Zaq,ZaI,Zaf,Zaw,Zav,Zae,Option.map_some,cond_true,cond_false,Int.sub_zero,Int.toNat_natCast]);(try simp only [Za9,Zc7,Zc9,Zar,Zbj,if_true,if_false]))
  rw [if_pos (by omega),h0]
  simp only [Zae]
  ((try simp (disch:=omega) only [Zam,Zal,Zaj,Zad,Zaq,ZaI,Zaf,Zaw,Zav,Zae,Option.map_some,cond_true,cond_false,Int.sub_zero,Int.toNat_natCast]);(try simp only [Za9,Zc7,Zc9,Zar,Zbj,if_true,if_false]))
  have e:base ns (l+1)=2*(base ns l+ns.count l):=by
   cases l with
   | zero=>omega
   | succ l=>rfl
  rw [show ((base ns l+ns.count l:Nat):Int)*2=((base ns (l+1):Nat):Int) by rw [e];omega,show (l:Int)+1=((l+1:Nat):Int) by omega,ih]
theorem ZlF (ns:List Nat) (hn:ns.length≤1000):ZcE (zs ns)=some (zs (Zb7 ns)):=by
 unfold ZcE
 have h:=Zt8 ns hn 15 1 (by omega) (by omega)
 rw [ZnP,←ZfS] at h
 rw [Zag,Zaj (by omega) (by rw [Int.toNat_natCast];omega),Int.toNat_natCast]
 rw [show ((15:Int)-1).toNat+2=15+1 from rfl]
 have e:((base ns 1:Nat):Int)=0:=rfl
 rw [e,show ((1:Nat):Int)=1 from rfl,show ((0:Nat):Int)=0 from rfl] at h
 rw [h];rfl
theorem Zoo (ns:List Nat) (hn:ns.length≤1000) (l:Nat) (hl:1≤l) (hl15:l≤15):∀(j i:Nat),i+j=ns.length→
  ZaR.l0 (j+1) (zs ns,((base ns l+(ns.take i).count l:Nat):Int),(l:Int),(i:Int),zs (Zfd ns l i))=some (zs ns,((base ns l+ns.count l:Nat):Int),(l:Int),zs (Zfd ns (l+1) 0))
 | 0,i,hi=>by
  have:i=ns.length:=by omega
  subst this
  rw [ZaR.l0.succ];simp only [ZaR.l0.step,Zag]
  rw [ZaL (by omega),List.take_length,ZnQ ns l hl];rfl
 | j+1,i,hi=>by
  have hlt:i<ns.length:=by omega
  have ih:=Zoo ns hn l hl hl15 j (i+1) (by omega)
  have hb:=Zib ns hn l (by omega)
  have hc:=List.count_le_length (a:=l) (l:=ns.take i)
  rw [List.length_take] at hc
  rw [Zeu ns l i hlt,Zqb ns l i hl hlt] at ih
  rw [ZaR.l0.succ];simp only [ZaR.l0.step,Zag,Zhw]
  rw [ZaK hlt,cond_true,Zab _ Zas,Int.toNat_natCast,ZaN]
  ((try simp (disch:=omega) only [Zam,Zal,Zaj,Zad,Zaq,ZaI,Zaf,Zaw,Zav,Zae,Option.map_some,cond_true,cond_false,Int.sub_zero,Int.toNat_natCast]);(try simp only [Za9,Zc7,Zc9,Zar,Zbj,if_true,if_false]))
  by_cases h:ns.getD i 0=l
  ·rw [if_pos (by omega),Zab _ Zas,show (i:Int)+1=((i+1:Nat):Int) by omega,show ((base ns l+(ns.take i).count l:Nat):Int)+1=((base ns l+((ns.take i).count l+1):Nat):Int) by omega,Zfx]
   rw [if_pos h,if_pos h] at ih
   rw [ih]
  ·rw [if_neg (by omega),show (i:Int)+1=((i+1:Nat):Int) by omega]
   rw [if_neg h,if_neg h] at ih
   simp only [Nat.add_zero] at ih
   rw [ih]
theorem Zon (ns:List Nat) (hn:ns.length≤1000):∀(j l:Nat),l+j=16→1≤l→ZaR.l1 (j+1) (zs ns,((base ns l:Nat):Int),(l:Int),zs (Zfd ns l 0))=some (zs (Zb7 ns))
 | 0,l,hl,h1=>by
  have:l=16:=by omega
  subst this
  rw [ZaR.l1.succ];simp only [ZaR.l1.step]
  rfl
 | j+1,l,hl,h1=>by
  have ih:=Zon ns hn j (l+1) (by omega) (by omega)
  have h0:=Zoo ns hn l h1 (by omega) ns.length 0 (by omega)
  have hb:=Zib ns hn l (by omega)
  have hc:=List.count_le_length (a:=l) (l:=ns)
  rw [List.take_zero,List.count_nil,show ((0:Nat):Int)=0 from rfl] at h0
  simp only [Nat.add_zero] at h0
  rw [ZaR.l1.succ];simp only [ZaR.l1.step,Zag]
  ((try simp (disch:=omega) only [Zam,Zal,Zaj,Zad,Zaq,ZaI,Zaf,Zaw,Zav,Zae,Option.map_some,cond_true,cond_false,Int.sub_zero,Int.toNat_natCast]);(try simp only [Za9,Zc7,Zc9,Zar,Zbj,if_true,if_false]))
  rw [if_pos (by omega),h0]
  simp only [Zae]
  ((try simp (disch:=omega) only [Zam,Zal,Zaj,Zad,Zaq,ZaI,Zaf,Zaw,Zav,Zae,Option.map_some,cond_true,cond_false,Int.sub_zero,Int.toNat_natCast]);(try simp only [Za9,Zc7,Zc9,Zar,Zbj,if_true,if_false]))
  have e:base ns (l+1)=2*(base ns l+ns.count l):=by
   cases l with
   | zero=>omega
   | succ l=>rfl
  rw [show 2*((base ns l+ns.count l:Nat):Int)=((base ns (l+1):Nat):Int) by rw [e];omega,show (l:Int)+1=((l+1:Nat):Int) by omega,ih]
theorem ZeO (ns:List Nat) (hn:ns.length≤1000):ZaR (zs ns)=some (zs (Zb7 ns)):=by
 unfold ZaR
 have h:=Zon ns hn 15 1 (by omega) (by omega)
 rw [ZnP,←ZfS] at h
 rw [Zag,Zaj (by omega) (by rw [Int.toNat_natCast];omega),Int.toNat_natCast]
 rw [show ((15:Int)-1).toNat+2=15+1 from rfl]
 have e:((base ns 1:Nat):Int)=0:=rfl
 rw [e,show ((1:Nat):Int)=1 from rfl,show ((0:Nat):Int)=0 from rfl] at h
 rw [h];rfl
def Zfa (ns:List Nat) (k c l:Nat):Option Nat:=(List.range k).find? fun i=>decide (0<ns.getD i 0)&&(decide (ns.getD i 0=l)&&decide (Zds ns i=c))
theorem Zxm (ns:List Nat) {i j:Nat} (hi:i<ns.length) (hj:j<ns.length) (hl:ns.getD i 0=ns.getD j 0) (hc:Zds ns i=Zds ns j):i=j:=by
 have key:∀{i j:Nat},i<j→j<ns.length→ns.getD i 0=ns.getD j 0→Zds ns i<Zds ns j:=fun {i j} hij hj hl=>by
  unfold Zds
  rw [hl]
  have h1:=Zeu ns (ns.getD j 0) i (by omega)
  rw [if_pos hl] at h1
  have h2:(ns.take (i+1)).count (ns.getD j 0)≤(ns.take j).count (ns.getD j 0):=by
   have:ns.take (i+1)=(ns.take j).take (i+1):=by rw [List.take_take,Nat.min_eq_left (by omega)]
   rw [this]
   exact (List.take_sublist _ _).count_le _
  omega
 rcases Nat.lt_trichotomy i j with h | h | h
 ·have:=key h hj hl;omega
 ·exact h
 ·have:=key h hi hl.symm;omega
theorem Zh8 {ns:List Nat} {k c l i:Nat} (h:Zfa ns k c l=some i):i<k∧0<ns.getD i 0∧ns.getD i 0=l∧Zds ns i=c:=by
 unfold Zfa at h
 have h1:=List.find?_some h
 have h2:=List.mem_of_find?_eq_some h
 simp only [Bool.and_eq_true,decide_eq_true_eq] at h1
 exact ⟨List.mem_range.1 h2,h1⟩
theorem ZpE {ns:List Nat} {k i:Nat} (hk:k≤ns.length) (hi:i<k) (h0:0<ns.getD i 0):Zfa ns k (Zds ns i) (ns.getD i 0)=some i:=by
 cases h:Zfa ns k (Zds ns i) (ns.getD i 0) with
 | none=>
  unfold Zfa at h
  have:=List.find?_eq_none.1 h i (List.mem_range.2 hi)
  exact absurd (by simp only [Bool.and_eq_true,decide_eq_true_eq];exact ⟨h0,trivial,trivial⟩) this
 | some j=>
  obtain ⟨h1,h2,h3,h4⟩:=Zh8 h
  rw [Zxm ns (by omega) (by omega) h3 h4]
theorem Zkx (ns:List Nat) (k c l:Nat) (hk:k<ns.length):Zfa ns (k+1) c l=if 0<ns.getD k 0∧ns.getD k 0=l∧Zds ns k=c then some k else Zfa ns k c l:=by
 by_cases h:0<ns.getD k 0∧ns.getD k 0=l∧Zds ns k=c
 ·rw [if_pos h]
  obtain ⟨h1,rfl,rfl⟩:=h
  exact ZpE (by omega) (by omega) h1
 ·rw [if_neg h]
  unfold Zfa
  rw [List.range_succ,List.find?_append]
  have:List.find? (fun i=>decide (0<ns.getD i 0)&&(decide (ns.getD i 0=l)&&decide (Zds ns i=c))) [k]=none:=by
   rw [List.find?_cons]
   have:(decide (0<ns.getD k 0)&&(decide (ns.getD k 0=l)&&decide (Zds ns k=c)))=false:=by
    rw [Bool.eq_false_iff];intro hh;simp only [Bool.and_eq_true,decide_eq_true_eq] at hh;exact h hh
   rw [this];rfl
  rw [this]
  cases List.find? (fun i=>decide (0<ns.getD i 0)&&(decide (ns.getD i 0=l)&&decide (Zds ns i=c))) (List.range k)<;>rfl
def ZrZ (ns:List Nat) (k:Nat) (es:List ((Int×Int)×Int)):Prop:=∀c l:Nat,Zen [.int .i64,.int .i64] [.int .i64] es ((c:Int),(l:Int))=(Zfa ns k c l).map fun (n:Nat)=>(n:Int)
theorem ZuR (es:List ((Int×Int)×Int)) (k k':Int×Int) (v:Int):Zen [.int .i64,.int .i64] [.int .i64] (Zfh [.int .i64,.int .i64] [.int .i64] es k v) k'=if k'=k then some v else Zen [.int .i64,.int .i64] [.int .i64] es k':=by
 have eqb:∀a b:Int×Int,El.eqb [.int .i64,.int .i64] a b=decide (a=b):=fun a b=>by
  rw [Bool.eq_iff_iff]
  simp only [El.eqb,Sc.eqb,Bool.and_true,Bool.and_eq_true,beq_iff_eq,decide_eq_true_eq]
  exact ⟨fun h=>Prod.ext h.1 h.2,fun h=>by rw [h];exact ⟨rfl,rfl⟩⟩
 induction es with
 | nil=>
  simp only [Zfh,Zen,eqb]
  by_cases h:k'=k<;>simp [h]
 | cons e r ih=>
  simp only [Zfh,eqb]
  by_cases h1:k=e.1
  ·rw [decide_eq_true h1,cond_true]
   simp only [Zen,eqb]
   by_cases h:k'=k
   ·simp [h]
   ·have:¬k'=e.1:=fun x=>h (x.trans h1.symm)
    simp [h,this]
  ·rw [decide_eq_false h1,cond_false]
   simp only [Zen,eqb]
   by_cases h:k'=e.1
   ·have:¬k'=k:=fun x=>h1 (x.symm.trans h)
    rw [decide_eq_true h,cond_true,cond_true,if_neg this]
   ·rw [decide_eq_false h,cond_false,cond_false];exact ih
end Ev
end
section
namespace Ev
open Go
theorem Zdr (ns:List Nat):(Zb7 ns).length=ns.length:=Zhw ns 16 0
theorem ZgM (ns:List Nat) (h15:∀n∈ns,n≤15) (i:Nat) (hi:i<ns.length) (h0:0<ns.getD i 0):(Zb7 ns).getD i 0=Zds ns i:=by
 have hm:ns.getD i 0≤15:=by rw [Zan hi];exact h15 _ (List.getElem_mem hi)
 rw [Zan (by rw [Zdr];exact hi)]
 simp only [Zb7,Zfd,List.getElem_map,List.getElem_range]
 rw [if_pos (by omega)]
theorem Znb (ns:List Nat) (hn:ns.length≤1000) (h15:∀n∈ns,n≤15):∀(j i:Nat) (es:List ((Int×Int)×Int)),i+j=ns.length→ZrZ ns i es→
  Ret (Zcg.l0 (j+1) (zs ns,(ns.length:Int),(i:Int),es,zs (Zb7 ns))) (ZrZ ns ns.length)
 | 0,i,es,hi,h=>by
  have:i=ns.length:=by omega
  subst this
  rw [Zcg.l0.succ];simp only [Zcg.l0.step]
  rw [ZaL (by omega)];exact .pure h
 | j+1,i,es,hi,h=>by
  have hlt:i<ns.length:=by omega
  have hm:ns.getD i 0≤15:=by rw [Zan hlt];exact h15 _ (List.getElem_mem hlt)
  rw [Zcg.l0.succ];simp only [Zcg.l0.step,Zag,Zdr]
  rw [ZaK hlt,cond_true,Zab _ Zas,Zab _ Zas,Int.toNat_natCast,ZaN,ZaN]
  ((try simp (disch:=omega) only [Zam,Zal,Zaj,Zad,Zaq,ZaI,Zaf,Zaw,Zav,Zae,Option.map_some,cond_true,cond_false,Int.sub_zero,Int.toNat_natCast]);(try simp only [Za9,Zc7,Zc9,Zar,Zbj,if_true,if_false]))
  by_cases h0:0<ns.getD i 0
  ·rw [if_pos (by omega),Zab _ Zas,show (i:Int)+1=((i+1:Nat):Int) by omega,ZgM ns h15 i hlt h0]
   refine Znb ns hn h15 j (i+1) _ (by omega) fun c l=>?_
   rw [ZuR,h c l,Zkx ns i c l hlt]
   by_cases hc:0<ns.getD i 0∧ns.getD i 0=l∧Zds ns i=c
   ·rw [if_pos hc,if_pos (by obtain ⟨_,rfl,rfl⟩:=hc;rfl)];rfl
   ·rw [if_neg hc,if_neg (fun e=>hc ⟨h0,by have e2:(l:Int)=((ns.getD i 0:Nat):Int):=(Prod.mk.inj e).2;omega,by have e1:(c:Int)=((Zds ns i:Nat):Int):=(Prod.mk.inj e).1;omega⟩)]
  ·rw [if_neg (by omega),show (i:Int)+1=((i+1:Nat):Int) by omega]
   refine Znb ns hn h15 j (i+1) _ (by omega) fun c l=>?_
   rw [h c l,Zkx ns i c l hlt,if_neg (fun e=>h0 e.1)]
theorem ZkI (ns:List Nat) (hn:ns.length≤1000) (h15:∀n∈ns,n≤15):Ret (Zcg (zs ns)) (ZrZ ns ns.length):=by
 unfold Zcg
 rw [ZlF ns hn]
 simp only [Zae,Zag,Zdr]
 rw [ZaC]
 refine .bind (Znb ns hn h15 ns.length 0 [] (by omega) fun c l=>?_) fun a ha=>.pure ha
 simp [Zen,Zfa]
def ZfD (ns:List Nat):Nat→Nat→Nat→List Bool→Option (Nat×List Bool)
 | 0,_,_,_=>none
 | _+1,_,_,[]=>none
 | f+1,l,c,b::r=>match Zfa ns ns.length (2*c+b.toNat) l with
  | some i=>some (i,r)
  | none=>ZfD ns f (l+1) (2*c+b.toNat) r
def Zk6 (ns:List Nat) (m:Option (List Bool)):Option (Nat×List Bool):=m.bind (ZfD ns 15 1 0)
def Zz3 (s:Str) (x:Option (Nat×List Bool)) (v at_:Int) (bad:Bool):Prop:=match x with
 | some (i,l)=>v=(i:Int)∧Rs s at_ bad (some l)
 | none=>v=0∧Rs s at_ bad none
theorem ZnW {s:Str} (hs:s.length≤1000000000) (ns:List Nat) (book:List ((Int×Int)×Int)) (hB:ZrZ ns ns.length book):∀(f l c:Nat) (at_:Int) (bad:Bool) (m:Option (List Bool)),l+f=16→c<2^l→Rs s at_ bad m→
  Ret (Zbq.l0 (f+1) ((c:Int),(l:Int),s,at_,bad,book)) fun r=>match m.bind (ZfD ns f l c) with
   | some (i,l')=>∃a,r=.inr ((i:Int),s,a,false,book)∧Rs s a false (some l')
   | none=>∃a b,r=.inl (s,a,b,book)∧∃m',Rs s a b m'
 | 0,l,c,at_,bad,m,hf,hc,h=>by
  rw [Zbq.l0.succ];simp only [Zbq.l0.step]
  ((try simp (disch:=omega) only [Zam,Zal,Zaj,Zad,Zaq,ZaI,Zaf,Zaw,Zav,Zae,Option.map_some,cond_true,cond_false,Int.sub_zero,Int.toNat_natCast]);(try simp only [Za9,Zc7,Zc9,Zar,Zbj,if_true,if_false]))
  rw [if_neg (by omega)]
  have:m.bind (ZfD ns 0 l c)=none:=by cases m<;>rfl
  rw [this]
  exact .pure ⟨at_,bad,rfl,_,h⟩
 | f+1,l,c,at_,bad,m,hf,hc,h=>by
  have hp:2^l≤2^15:=Nat.pow_le_pow_right (by omega) (by omega)
  rw [Zbq.l0.succ];simp only [Zbq.l0.step]
  ((try simp (disch:=omega) only [Zam,Zal,Zaj,Zad,Zaq,ZaI,Zaf,Zaw,Zav,Zae,Option.map_some,cond_true,cond_false,Int.sub_zero,Int.toNat_natCast]);(try simp only [Za9,Zc7,Zc9,Zar,Zbj,if_true,if_false]))
  rw [if_pos (by omega)]
  refine .bind (Zke hs h) ?_
  rintro ⟨r,s',at',bad'⟩ ⟨rfl,b,rfl,h2,h3⟩
  dsimp only at h2 h3 ⊢
  have hb:b.toNat≤1:=by cases b<;>decide
  ((try simp (disch:=omega) only [Zam,Zal,Zaj,Zad,Zaq,ZaI,Zaf,Zaw,Zav,Zae,Option.map_some,cond_true,cond_false,Int.sub_zero,Int.toNat_natCast]);(try simp only [Za9,Zc7,Zc9,Zar,Zbj,if_true,if_false]))
  rw [show 2*(c:Int)+((b.toNat:Nat):Int)=((2*c+b.toNat:Nat):Int) by omega,show (l:Int)+1=((l+1:Nat):Int) by omega,hB _ _]
  have go:∀m2,Rs s' at' bad' m2→Ret (Zbq.l0 (f+1) (((2*c+b.toNat:Nat):Int),((l+1:Nat):Int),s',at',bad',book)) fun r=>match m2.bind (ZfD ns f (l+1) (2*c+b.toNat)) with
   | some (i,l')=>∃a,r=.inr ((i:Int),s',a,false,book)∧Rs s' a false (some l')
   | none=>∃a b,r=.inl (s',a,b,book)∧∃m',Rs s' a b m':=fun m2 h4=>ZnW hs ns book hB f (l+1) _ at' bad' m2 (by omega) (by rw [Nat.pow_succ];omega) h4
  have fail:Rs s' at' bad' none→m.bind (ZfD ns (f+1) l c)=none→Ret (((if ((Zfa ns ns.length (2*c+b.toNat) l).map fun (n:Nat)=>(n:Int)).isSome=true then some (!bad') else some false).bind fun c_1=>
    bif c_1 then some (Sum.inr (((Zfa ns ns.length (2*c+b.toNat) l).map fun (n:Nat)=>(n:Int)).getD 0,s',at',bad',book)) else Zbq.l0 (f+1) (((2*c+b.toNat:Nat):Int),((l+1:Nat):Int),s',at',bad',book))) fun r=>match m.bind (ZfD ns (f+1) l c) with
   | some (i,l')=>∃a,r=.inr ((i:Int),s',a,false,book)∧Rs s' a false (some l')
   | none=>∃a b,r=.inl (s',a,b,book)∧∃m',Rs s' a b m':=fun h4 e=>by
   rw [e]
   have hbad:bad'=true:=h4.1
   have e2:(if ((Zfa ns ns.length (2*c+b.toNat) l).map fun (n:Nat)=>(n:Int)).isSome=true then some (!bad') else some false)=some false:=by
    rw [hbad];split<;>rfl
   rw [e2]
   simp only [Zae,cond_false]
   exact go none h4
  have hform:∀(x:Option Int) (y z:Option (((Str×Int×Bool×List ((Int×Int)×Int))⊕(Int×Str×Int×Bool×List ((Int×Int)×Int))))),((bif x.isSome then some (!bad') else some false).bind fun c_1=>bif c_1 then y else z)=((if x.isSome=true then some (!bad') else some false).bind fun c_1=>bif c_1 then y else z):=fun x y z=>by cases x<;>rfl
  rw [hform]
  cases m with
  | none=>exact fail h2 rfl
  | some lst=>
   cases lst with
   | nil=>exact fail h2 rfl
   | cons b' l0=>
    have hbb:=h3 b' l0 rfl
    subst hbb
    have hbad:bad'=false:=h2.1
    subst hbad
    simp only [Option.bind_some,ZfD]
    cases hfi:Zfa ns ns.length (2*c+b.toNat) l with
    | some i=>
     simp only [Option.map_some,Option.isSome_some,if_true,Zae,Bool.not_false,cond_true,Option.getD_some]
     exact .pure ⟨at',rfl,h2⟩
    | none=>
     simp only [Option.map_none,Option.isSome_none,Zae,cond_false,Bool.false_eq_true,if_false]
     exact go (some l0) h2
theorem Zkc {s:Str} {at_:Int} {bad:Bool} {m:Option (List Bool)} (hs:s.length≤1000000000) (ns:List Nat) {book:List ((Int×Int)×Int)} (hB:ZrZ ns ns.length book) (h:Rs s at_ bad m) :
  Ret (Zbq s at_ bad book) fun r=>r.2.1=s∧r.2.2.2.2=book∧Zz3 s (Zk6 ns m) r.1 r.2.2.1 r.2.2.2.1:=by
 unfold Zbq
 have h0:=ZnW hs ns book hB 15 1 0 at_ bad m (by omega) (by omega) h
 rw [show ((15:Int)-1).toNat+2=15+1 from rfl]
 refine .bind h0 fun r hr=>?_
 unfold Zk6
 cases hm:m.bind (ZfD ns 15 1 0) with
 | none=>
  rw [hm] at hr
  obtain ⟨a,b,rfl,m',h'⟩:=hr
  exact .pure ⟨rfl,rfl,rfl,h'.fail⟩
 | some x=>
  obtain ⟨i,l'⟩:=x
  rw [hm] at hr
  obtain ⟨a,rfl,h'⟩:=hr
  exact .pure ⟨rfl,rfl,rfl,h'⟩
theorem ZnU (s:Str) (at_:Int) (bad:Bool) (ns:List Nat) (hn:ns.length≤1000) (h15:∀n∈ns,n≤15) (c l:Nat) (hl:1≤l):∀(j i:Nat),i+j=ns.length→Zfa ns i c l=none→
  ZaX.l0 (j+1) (zs ns,zs (Zb7 ns),(c:Int),(l:Int),(i:Int),s,at_,bad)=some (match Zfa ns ns.length c l with
   | some k=>.inr (.inr ((k:Int),s,at_,bad))
   | none=>.inl (zs ns,zs (Zb7 ns),(c:Int),(l:Int),s,at_,bad))
 | 0,i,hi,h=>by
  have:i=ns.length:=by omega
  subst this
  rw [ZaX.l0.succ];simp only [ZaX.l0.step,Zag]
  rw [ZaL (by omega),h];rfl
 | j+1,i,hi,h=>by
  have hlt:i<ns.length:=by omega
  rw [ZaX.l0.succ];simp only [ZaX.l0.step,Zag,Zdr]
  rw [ZaK hlt,cond_true,Zab _ Zas,Zab _ Zas,Int.toNat_natCast,ZaN,ZaN]
  by_cases hc:0<ns.getD i 0∧ns.getD i 0=l∧Zds ns i=c
  ·have hfull:Zfa ns ns.length c l=some i:=by
    obtain ⟨h1,rfl,rfl⟩:=hc
    exact ZpE (Nat.le_refl _) hlt h1
   obtain ⟨h1,h2,h3⟩:=hc
   have e1:(((ns.getD i 0:Nat):Int)==(l:Int))=true:=by rw [beq_iff_eq];omega
   have e2:((((Zb7 ns).getD i 0:Nat):Int)==(c:Int))=true:=by rw [ZgM ns h15 i hlt h1,beq_iff_eq];omega
   rw [e1,e2,hfull]
   simp only [cond_true,Zae,Option.map_some]
  ·have hnext:Zfa ns (i+1) c l=none:=by rw [Zkx ns i c l hlt,if_neg hc];exact h
   have ih:=ZnU s at_ bad ns hn h15 c l hl j (i+1) (by omega) hnext
   have e:(bif (((ns.getD i 0:Nat):Int)==(l:Int)) then (some ((((Zb7 ns).getD i 0:Nat):Int)==(c:Int))) else some false)=some false:=by
    by_cases h2:ns.getD i 0=l
    ·have e1:(((ns.getD i 0:Nat):Int)==(l:Int))=true:=by rw [beq_iff_eq];omega
     have e2:((((Zb7 ns).getD i 0:Nat):Int)==(c:Int))=false:=by
      rw [ZgM ns h15 i hlt (by omega),beq_eq_false_iff_ne]
      intro h3;exact hc ⟨by omega,h2,by omega⟩
     rw [e1,e2];rfl
    ·have e1:(((ns.getD i 0:Nat):Int)==(l:Int))=false:=by rw [beq_eq_false_iff_ne];omega
     rw [e1];rfl
   rw [e]
   simp only [Zae,cond_false]
   rw [Zcu (by omega),ih]
def ZyY (s:Str) (n:Nat) (x:Option (Nat×List Bool)) (v at_:Int) (bad:Bool):Prop:=match x with
 | some (i,l)=>v=(i:Int)∧Rs s at_ bad (some l)
 | none=>-1≤v∧v<n∧Rs s at_ bad none
theorem ZnT {s:Str} (hs:s.length≤1000000000) (ns:List Nat) (hn:ns.length≤1000) (h15:∀n∈ns,n≤15):∀(f l c:Nat) (at_:Int) (bad:Bool) (m:Option (List Bool)),l+f=16→1≤l→c<2^l→Rs s at_ bad m→
  Ret (ZaX.l1 (f+1) (zs ns,zs (Zb7 ns),(c:Int),(l:Int),s,at_,bad)) fun r=>match m.bind (ZfD ns f l c) with
   | some (i,l')=>∃a,r=.inr ((i:Int),s,a,false)∧Rs s a false (some l')
   | none=>(∃a b,r=.inl (s,a,b)∧∃m',Rs s a b m')∨(∃k a,k<ns.length∧r=.inr ((k:Int),s,a,true)∧Rs s a true none)
 | 0,l,c,at_,bad,m,hf,h1,hc,h=>by
  rw [ZaX.l1.succ];simp only [ZaX.l1.step]
  ((try simp (disch:=omega) only [Zam,Zal,Zaj,Zad,Zaq,ZaI,Zaf,Zaw,Zav,Zae,Option.map_some,cond_true,cond_false,Int.sub_zero,Int.toNat_natCast]);(try simp only [Za9,Zc7,Zc9,Zar,Zbj,if_true,if_false]))
  rw [if_neg (by omega)]
  have:m.bind (ZfD ns 0 l c)=none:=by cases m<;>rfl
  rw [this]
  exact .pure (.inl ⟨at_,bad,rfl,_,h⟩)
 | f+1,l,c,at_,bad,m,hf,h1,hc,h=>by
  have hp:2^l≤2^15:=Nat.pow_le_pow_right (by omega) (by omega)
  rw [ZaX.l1.succ];simp only [ZaX.l1.step,Zag]
  ((try simp (disch:=omega) only [Zam,Zal,Zaj,Zad,Zaq,ZaI,Zaf,Zaw,Zav,Zae,Option.map_some,cond_true,cond_false,Int.sub_zero,Int.toNat_natCast]);(try simp only [Za9,Zc7,Zc9,Zar,Zbj,if_true,if_false]))
  rw [if_pos (by omega)]
  simp only [Zae]
  cases bad with
  | true=>
   have hm:m=none:=by cases m with
    | none=>rfl
    | some l=>exact absurd h.1 (by simp)
   subst hm
   exact .pure (.inl ⟨at_,true,rfl,_,h⟩)
  | false=>
  simp only [Bool.not_false,cond_true]
  refine .bind (Zsm hs h) ?_
  rintro ⟨r,s',at',bad'⟩ ⟨rfl,b,rfl,h2,h3⟩
  dsimp only at h2 h3 ⊢
  have hb:b.toNat≤1:=by cases b<;>decide
  ((try simp (disch:=omega) only [Zam,Zal,Zaj,Zad,Zaq,ZaI,Zaf,Zaw,Zav,Zae,Option.map_some,cond_true,cond_false,Int.sub_zero,Int.toNat_natCast]);(try simp only [Za9,Zc7,Zc9,Zar,Zbj,if_true,if_false]))
  have h0:=ZnU s' at' bad' ns hn h15 (2*c+b.toNat) l h1 ns.length 0 (by omega) (by simp [Zfa])
  rw [show ((0:Nat):Int)=0 from rfl] at h0
  rw [show 2*(c:Int)+((b.toNat:Nat):Int)=((2*c+b.toNat:Nat):Int) by omega,h0]
  simp only [Zae]
  have go:∀m2,Rs s' at' bad' m2→Ret (ZaX.l1 (f+1) (zs ns,zs (Zb7 ns),((2*c+b.toNat:Nat):Int),((l+1:Nat):Int),s',at',bad')) fun r=>match m2.bind (ZfD ns f (l+1) (2*c+b.toNat)) with
   | some (i,l')=>∃a,r=.inr ((i:Int),s',a,false)∧Rs s' a false (some l')
   | none=>(∃a b,r=.inl (s',a,b)∧∃m',Rs s' a b m')∨(∃k a,k<ns.length∧r=.inr ((k:Int),s',a,true)∧Rs s' a true none):=fun m2 h4=>ZnT hs ns hn h15 f (l+1) _ at' bad' m2 (by omega) (by omega) (by rw [Nat.pow_succ];omega) h4
  have hfail:Rs s' at' bad' none→m.bind (ZfD ns (f+1) l c)=none→Ret (match (match Zfa ns ns.length (2*c+b.toNat) l with
     | some k=>(Sum.inr (Sum.inr ((k:Int),s',at',bad')):(List Int×List Int×Int×Int×Str×Int×Bool)⊕((Str×Int×Bool)⊕(Int×Str×Int×Bool)))
     | none=>.inl (zs ns,zs (Zb7 ns),((2*c+b.toNat:Nat):Int),(l:Int),s',at',bad')) with
    | .inl (lens3,codes_3,code_2,n2,o6,o7,o8)=>ZaX.l1 (f+1) (lens3,codes_3,code_2,w64 (n2+1),o6,o7,o8)
    | .inr r=>some r) fun r=>match m.bind (ZfD ns (f+1) l c) with
   | some (i,l')=>∃a,r=.inr ((i:Int),s',a,false)∧Rs s' a false (some l')
   | none=>(∃a b,r=.inl (s',a,b)∧∃m',Rs s' a b m')∨(∃k a,k<ns.length∧r=.inr ((k:Int),s',a,true)∧Rs s' a true none):=fun h4 e=>by
   rw [e]
   have hbad:bad'=true:=h4.1
   subst hbad
   cases hfi:Zfa ns ns.length (2*c+b.toNat) l with
   | some k=>exact .pure (.inr ⟨k,at',(Zh8 hfi).1,rfl,h4⟩)
   | none=>
    dsimp only
    rw [Zcu (by omega)]
    exact go none h4
  cases m with
  | none=>exact absurd h.1 (by simp)
  | some lst=>
   cases lst with
   | nil=>exact hfail h2 rfl
   | cons b' l0=>
    have hbb:=h3 b' l0 rfl
    subst hbb
    have hbad:bad'=false:=h2.1
    subst hbad
    simp only [Option.bind_some,ZfD]
    cases hfi:Zfa ns ns.length (2*c+b.toNat) l with
    | some i=>exact .pure ⟨at',rfl,h2⟩
    | none=>
     dsimp only
     rw [Zcu (by omega)]
     exact go (some l0) h2
theorem Zj7 {s:Str} {at_:Int} {bad:Bool} {m:Option (List Bool)} (hs:s.length≤1000000000) (ns:List Nat) (hn:ns.length≤1000) (h15:∀n∈ns,n≤15) (h:Rs s at_ bad m) :
  Ret (ZaX (zs ns) (zs (Zb7 ns)) s at_ bad) fun r=>r.2.1=s∧ZyY s ns.length (Zk6 ns m) r.1 r.2.2.1 r.2.2.2:=by
 unfold ZaX
 have h0:=ZnT hs ns hn h15 15 1 0 at_ bad m (by omega) (by omega) (by omega) h
 rw [show ((15:Int)-1).toNat+2=15+1 from rfl]
 refine .bind h0 fun r hr=>?_
 unfold Zk6
 cases hm:m.bind (ZfD ns 15 1 0) with
 | none=>
  rw [hm] at hr
  rcases hr with ⟨a,b,rfl,m',h'⟩ | ⟨k,a,hk,rfl,h'⟩
  ·exact Ret.pure ⟨rfl,by dsimp only;omega,by dsimp only;omega,h'.fail⟩
  ·exact Ret.pure ⟨rfl,by dsimp only;omega,by dsimp only;omega,h'⟩
 | some x=>
  obtain ⟨i,l'⟩:=x
  rw [hm] at hr
  obtain ⟨a,rfl,h'⟩:=hr
  exact .pure ⟨rfl,rfl,h'⟩
end Ev
end
section
namespace Ev
open Go
def krU (L:Nat):List Nat→Nat
 | []=>0
 | n::r=>(if 0<n∧n≤L then 2^(15-n) else 0)+krU L r
theorem Zy7 (L:Nat):∀ns,krU L ns≤ZbB ns
 | []=>Nat.le_refl _
 | n::r=>by
  have:=Zy7 L r
  simp only [krU,ZbB]
  by_cases h:0<n∧n≤L
  ·rw [if_pos h,if_pos h.1];omega
  ·have:=Nat.two_pow_pos (15-n);rw [if_neg h];split<;>omega
theorem Zpp (L:Nat):∀ns:List Nat,krU (L+1) ns=krU L ns+ns.count (L+1)*2^(15-(L+1))
 | []=>by simp [krU]
 | n::r=>by
  have ih:=Zpp L r
  simp only [krU,List.count_cons,ih]
  by_cases h:n=L+1
  ·subst h
   rw [if_pos (by omega),if_neg (by omega)]
   simp only [beq_self_eq_true,if_true,Nat.add_mul,Nat.one_mul];omega
  ·have hb:(n==L+1)=false:=by simp [h]
   rw [hb]
   simp only [Bool.false_eq_true,if_false,Nat.add_zero]
   by_cases h2:0<n∧n≤L
   ·rw [if_pos h2,if_pos (by omega)];omega
   ·rw [if_neg h2,if_neg (by omega)];omega
theorem ZtN:∀ns:List Nat,krU 0 ns=0
 | []=>rfl
 | n::r=>by simp only [krU,ZtN r];rw [if_neg (by omega)]
theorem Zxx (ns:List Nat):∀L,L+1≤15→(base ns (L+1)+ns.count (L+1))*2^(15-(L+1))=krU (L+1) ns
 | 0,_=>by
  rw [Zpp,ZtN];simp [base]
 | L+1,h=>by
  have ih:=Zxx ns L (by omega)
  rw [Zpp,←ih]
  have e:base ns (L+1+1)=2*(base ns (L+1)+ns.count (L+1)):=rfl
  rw [e,Nat.add_mul,Nat.mul_comm 2,Nat.mul_assoc]
  congr 2
  rw [show 15-(L+1)=(15-(L+1+1))+1 by omega,Nat.pow_succ,Nat.mul_comm]
theorem Zxw (ns:List Nat) (hk:ZbB ns≤32768) (L:Nat) (h1:1≤L) (h15:L≤15):base ns L+ns.count L≤2^L:=by
 obtain ⟨l,rfl⟩:∃l,L=l+1:=⟨L-1,by omega⟩
 have h:=Zxx ns l h15
 have h2:=Zy7 (l+1) ns
 have:(base ns (l+1)+ns.count (l+1))*2^(15-(l+1))≤2^(l+1)*2^(15-(l+1)):=by
  rw [h,←Nat.pow_add,show l+1+(15-(l+1))=15 by omega]
  omega
 exact Nat.le_of_mul_le_mul_right this (Nat.two_pow_pos _)
theorem ZpH (ns:List Nat) (i:Nat) (hi:i<ns.length):(ns.take i).count (ns.getD i 0)<ns.count (ns.getD i 0):=by
 have h:=Zeu ns (ns.getD i 0) i hi
 rw [if_pos rfl] at h
 have:(ns.take (i+1)).count (ns.getD i 0)≤ns.count (ns.getD i 0):=(List.take_sublist _ _).count_le _
 omega
theorem ZrN (ns:List Nat) (i:Nat) (hi:i<ns.length):Zds ns i<base ns (ns.getD i 0)+ns.count (ns.getD i 0):=by
 have:=ZpH ns i hi
 unfold Zds;omega
theorem Zua (ns:List Nat) (hk:ZbB ns≤32768) (h15:∀n∈ns,n≤15) (i:Nat) (hi:i<ns.length) (h0:0<ns.getD i 0):Zds ns i<2^(ns.getD i 0):=by
 have hm:ns.getD i 0≤15:=by rw [Zan hi];exact h15 _ (List.getElem_mem hi)
 have h1:=ZrN ns i hi
 have h2:=Zxw ns hk _ h0 hm
 omega
theorem Zxv (ns:List Nat) (l:Nat) (h1:1≤l):∀d,(base ns l+ns.count l)*2^(d+1)≤base ns (l+d+1)
 | 0=>by
  obtain ⟨k,rfl⟩:∃k,l=k+1:=⟨l-1,by omega⟩
  have e:base ns (k+1+0+1)=2*(base ns (k+1)+ns.count (k+1)):=rfl
  rw [e];omega
 | d+1=>by
  have ih:=Zxv ns l h1 d
  obtain ⟨k,rfl⟩:∃k,l=k+1:=⟨l-1,by omega⟩
  have e:base ns (k+1+(d+1)+1)=2*(base ns (k+1+d+1)+ns.count (k+1+d+1)):=by
   rw [show k+1+(d+1)+1=(k+d+1)+2 by omega,show k+1+d+1=k+d+1+1 by omega];rfl
  rw [e,Nat.pow_succ,←Nat.mul_assoc];omega
theorem Ztt (c L:Nat):∀l,l<L→(msb c L).drop l=c.testBit (L-1-l)::(msb c L).drop (l+1):=fun l hl=>by
 have hlen:(msb c L).length=L:=by simp [msb,Zak]
 rw [List.drop_eq_getElem_cons (by omega)]
 congr 1
 simp only [msb]
 rw [List.getElem_reverse]
 simp only [Zak]
 exact Zje c L _ (by omega)
theorem ZnO (ns:List Nat) (hk:ZbB ns≤32768) (h15:∀n∈ns,n≤15) (i:Nat) (hi:i<ns.length) (h0:0<ns.getD i 0) (rest:List Bool):∀(d l:Nat),l+d=ns.getD i 0→1≤l→
  ZfD ns (16-l) l (Zds ns i/2^(d+1)) ((msb (Zds ns i) (ns.getD i 0)).drop (l-1)++rest)=some (i,rest)
 | 0,l,hl,h1=>by
  have hm:ns.getD i 0≤15:=by rw [Zan hi];exact h15 _ (List.getElem_mem hi)
  have hL:l=ns.getD i 0:=by omega
  rw [Ztt _ _ (l-1) (by omega),show 16-l=(15-l)+1 by omega]
  simp only [List.cons_append,ZfD]
  have e:2*(Zds ns i/2^(0+1))+(Nat.testBit (Zds ns i) (ns.getD i 0-1-(l-1))).toNat=Zds ns i:=by
   rw [show ns.getD i 0-1-(l-1)=0 by omega,←Zd4];simp;omega
  rw [e,hL,ZpE (Nat.le_refl _) hi h0]
  dsimp only
  rw [List.drop_eq_nil_of_le (by simp [msb,Zak];omega)];rfl
 | d+1,l,hl,h1=>by
  have hm:ns.getD i 0≤15:=by rw [Zan hi];exact h15 _ (List.getElem_mem hi)
  have ih:=ZnO ns hk h15 i hi h0 rest d (l+1) (by omega) (by omega)
  rw [Ztt _ _ (l-1) (by omega),show 16-l=(16-(l+1))+1 by omega]
  simp only [List.cons_append,ZfD]
  have e:2*(Zds ns i/2^(d+1+1))+(Nat.testBit (Zds ns i) (ns.getD i 0-1-(l-1))).toNat=Zds ns i/2^(d+1):=by
   rw [show ns.getD i 0-1-(l-1)=d+1 by omega,←Zd4,Nat.pow_succ 2 (d+1),←Nat.div_div_eq_div_mul];omega
  rw [e]
  have hnone:Zfa ns ns.length (Zds ns i/2^(d+1)) l=none:=by
   cases hf:Zfa ns ns.length (Zds ns i/2^(d+1)) l with
   | none=>rfl
   | some j=>
    obtain ⟨hj,hj0,hjl,hjc⟩:=Zh8 hf
    have t1:=ZrN ns j hj
    rw [hjl,hjc] at t1
    have t2:=Zxv ns l h1 d
    have t3:base ns (l+d+1)≤Zds ns i:=by unfold Zds;rw [show ns.getD i 0=l+d+1 by omega];omega
    have:(Zds ns i/2^(d+1))+1≤base ns l+ns.count l:=t1
    have t4:=Nat.mul_le_mul_right (2^(d+1)) this
    have t5:=Nat.lt_mul_div_succ (Zds ns i) (Nat.two_pow_pos (d+1))
    rw [Nat.mul_comm] at t5
    omega
  rw [hnone]
  dsimp only
  rw [show l-1+1=l+1-1 by omega]
  exact ih
theorem Zwo (ns:List Nat) (hk:ZbB ns≤32768) (h15:∀n∈ns,n≤15) (i:Nat) (hi:i<ns.length) (h0:0<ns.getD i 0) (rest:List Bool) :
  Zk6 ns (some (msb (Zds ns i) (ns.getD i 0)++rest))=some (i,rest):=by
 have h:=ZnO ns hk h15 i hi h0 rest (ns.getD i 0-1) 1 (by omega) (by omega)
 have hlt:=Zua ns hk h15 i hi h0
 rw [show ns.getD i 0-1+1=ns.getD i 0 by omega,Nat.div_eq_of_lt hlt] at h
 simpa [Zk6] using h
def Zi2 (ns:List Nat) (i:Nat):List Bool:=msb ((Zb7 ns).getD i 0) (ns.getD i 0)
theorem Zzn (ns:List Nat) (h15:∀n∈ns,n≤15) (i:Nat) (hi:i<ns.length) (h0:0<ns.getD i 0):Zi2 ns i=msb (Zds ns i) (ns.getD i 0):=by
 unfold Zi2;rw [ZgM ns h15 i hi h0]
theorem ZrM (ns:List Nat) (hk:ZbB ns≤32768) (h15:∀n∈ns,n≤15) (i:Nat) (hi:i<ns.length):(Zb7 ns).getD i 0<2^(ns.getD i 0):=by
 by_cases h0:0<ns.getD i 0
 ·rw [ZgM ns h15 i hi h0];exact Zua ns hk h15 i hi h0
 ·have e:(Zb7 ns).getD i 0=0:=by
   rw [Zan (by rw [Zdr];exact hi)]
   simp only [Zb7,Zfd,List.getElem_map,List.getElem_range]
   rw [if_neg (by omega)]
  rw [e];exact Nat.two_pow_pos _
theorem Zi3 (ns:List Nat) (hk:ZbB ns≤32768) (h15:∀n∈ns,n≤15) (i:Nat) (hi:i<ns.length) (l:List Bool) (hl:l.length≤80000000) :
  Zge (zs ns) (zs (Zb7 ns)) (i:Int) (l.length:Int) (Zfm l)=some ((((l++Zi2 ns i).length:Nat):Int),Zfm (l++Zi2 ns i)):=by
 have hm:ns.getD i 0≤15:=by rw [Zan hi];exact h15 _ (List.getElem_mem hi)
 have hlt:=ZrM ns hk h15 i hi
 have hp:2^(ns.getD i 0)≤2^15:=Nat.pow_le_pow_right (by omega) hm
 have ht:=ZoT ((Zb7 ns).getD i 0) (ns.getD i 0)
 unfold Zge
 rw [Zag,Zag,Zdr,Zab _ (Zax hi),Zab _ (Zax hi),Int.toNat_natCast,ZaN,ZaN,Zs0 _ _ (by omega) hlt]
 simp only [Zae]
 rw [Zab _ (Zax hi),ZeF _ _ (by omega) (by omega) l (by omega),ZqG]
 rfl
theorem Zmg (ns:List Nat) (hk:ZbB ns≤32768) (h15:∀n∈ns,n≤15) (i:Nat) (hi:i<ns.length) (l:List Bool) (hl:l.length≤80000000) :
  Znt (zs ns) (zs (Zb7 ns)) (i:Int) (oL l:Int) ((l.length%8:Nat):Int) (oT l)=some ((oL (l++Zi2 ns i):Int),(((l++Zi2 ns i).length%8:Nat):Int),oT (l++Zi2 ns i)):=by
 have hm:ns.getD i 0≤15:=by rw [Zan hi];exact h15 _ (List.getElem_mem hi)
 have hlt:=ZrM ns hk h15 i hi
 have hp:2^(ns.getD i 0)≤2^15:=Nat.pow_le_pow_right (by omega) hm
 have ht:=ZoT ((Zb7 ns).getD i 0) (ns.getD i 0)
 unfold Znt ZeN
 rw [Zag,Zag,Zdr,Zab _ (Zax hi),Zab _ (Zax hi),Int.toNat_natCast,ZaN,ZaN,ZwJ _ _ (by omega) (by omega)]
 simp only [Zae]
 rw [Zab _ (Zax hi)]
 simp only [Zae]
 rw [Zem _ _ (by omega) (by omega) l (by omega),ZqG]
 rfl
end Ev
end
section
namespace Ev
open Go
def ZrI (k:Nat):Nat→List Int→List Int
 | 0,out=>out
 | n+1,out=>ZrI k n (out++[out.getD (out.length-k) 0])
def ZpR (out:List Int) (l k:Nat):Option (List Int):=if l≤60∧k≤250∧k≤out.length then some (ZrI k l out) else none
theorem Zlg (k:Nat):∀n out,(ZrI k n out).length=out.length+n
 | 0,out=>rfl
 | n+1,out=>by rw [ZrI,Zlg k n];simp;omega
theorem Zzf (b:Int) (l k:Nat) (hk:1≤k) (hl:l≤1000):∀(j i:Nat) (out:List Int),i+j=l→k≤out.length→out.length+j≤1000000→
  add.l0 (j+1) ((l:Int),(i:Int),out,b,(l:Int),(k:Int))=some (ZrI k j out)
 | 0,i,out,hi,h1,h2=>by
  rw [add.l0.succ];simp only [add.l0.step]
  rw [ZaL (by omega)];rfl
 | j+1,i,out,hi,h1,h2=>by
  rw [add.l0.succ];simp only [add.l0.step]
  rw [ZaK (by omega),cond_true,Zaf (n:=(out.length:Int)-k) (by omega) (by omega),show (out.length:Int)-k=((out.length-k:Nat):Int) by omega,
   Zab _ (Zax (by omega)),Int.toNat_natCast,Zad (by simp;omega),Zaf (by omega) (by omega),show (i:Int)+1=((i+1:Nat):Int) by omega,
   Zzf b l k hk hl j (i+1) _ (by omega) (by simp;omega) (by simp;omega)]
  rfl
theorem ZtH (b:Int) (l k:Nat) (hk:1≤k) (hl:l≤1000):∀(j i:Nat) (out:List Int),i+j=l→k≤out.length→out.length+j≤1000000→
  ZeM.l0 (j+1) ((i:Int),out,b,(l:Int),(k:Int))=some (ZrI k j out)
 | 0,i,out,hi,h1,h2=>by
  rw [ZeM.l0.succ];simp only [ZeM.l0.step]
  rw [ZaL (by omega)];rfl
 | j+1,i,out,hi,h1,h2=>by
  rw [ZeM.l0.succ];simp only [ZeM.l0.step]
  rw [ZaK (by omega),cond_true,Zaf (n:=(out.length:Int)-k) (by omega) (by omega),show (out.length:Int)-k=((out.length-k:Nat):Int) by omega,
   Zab _ (Zax (by omega)),Int.toNat_natCast,Zad (by simp;omega),Zaf (by omega) (by omega),show (i:Int)+1=((i+1:Nat):Int) by omega,
   ZtH b l k hk hl j (i+1) _ (by omega) (by simp;omega) (by simp;omega)]
  rfl
theorem Zlu (a b:Nat):ZpQ (a:Int) (b:Int)=((min a b:Nat):Int):=by
 unfold ZpQ
 by_cases h:(b:Int)<(a:Int)
 ·rw [if_pos h];omega
 ·rw [if_neg h];omega
theorem Zz1 (l k:Nat) (out:List Int) (hl:3≤l) (hk:1≤k) (ho:out.length≤100000) :
  add 0 (l:Int) (k:Int) out=some ((ZpR out l k).isSome,(ZpR out l k).getD []):=by
 unfold add ZpR
 rw [show (250:Int)=((250:Nat):Int) from rfl,Zlu]
 simp only [ZdO,Zae]
 rw [show (((l:Nat):Int)==0)=false by simp;omega,show ((0:Int) != 0)=false from rfl]
 simp only [cond_false]
 by_cases h60:l≤60
 ·rw [show decide ((3:Int)≤(l:Int)∧(l:Int)≤60)=true by simp;omega]
  simp only [Bool.not_true,cond_false,Zae]
  by_cases hb:k≤250∧k≤out.length
  ·rw [show decide ((1:Int)≤(k:Int)∧(k:Int)≤((min 250 out.length:Nat):Int))=true by simp;omega,if_pos ⟨h60,hb⟩]
   simp only [Bool.not_true,cond_false]
   rw [Int.sub_zero,Int.toNat_natCast]
   have:=Zzf 0 l k hk (by omega) l 0 out (by omega) hb.2 (by omega)
   rw [show ((0:Nat):Int)=0 from rfl] at this
   rw [this];rfl
  ·rw [show decide ((1:Int)≤(k:Int)∧(k:Int)≤((min 250 out.length:Nat):Int))=false by simp;omega,if_neg (fun e=>hb e.2)]
   rfl
 ·rw [show decide ((3:Int)≤(l:Int)∧(l:Int)≤60)=false by simp;omega,if_neg (fun e=>h60 e.1)]
  rfl
theorem ZwG (l k:Nat) (out:List Int) (hl:3≤l) (hk:1≤k) (ho:out.length≤100000) :
  ZeM 0 (l:Int) (k:Int) out=some ((ZpR out l k).isSome,(ZpR out l k).getD out):=by
 unfold ZeM ZpR
 simp only [Zlx,Zae]
 rw [show (((l:Nat):Int)==0)=false by simp;omega,show ((0:Int) != 0)=false from rfl]
 simp only [cond_false]
 by_cases h60:l≤60
 ·rw [show decide ((3:Int)≤(l:Int)∧(l:Int)≤60)=true by simp;omega]
  simp only [Bool.not_true,cond_false,Zae]
  by_cases h2:k≤250
  ·rw [show decide ((1:Int)≤(k:Int)∧(k:Int)≤250)=true by simp;omega]
   simp only [Bool.not_true,cond_false,Zae]
   by_cases hb:k≤out.length
   ·rw [show decide ((k:Int)>(out.length:Int))=false by simp;omega,if_pos ⟨h60,h2,hb⟩]
    simp only [cond_false]
    rw [Int.sub_zero,Int.toNat_natCast]
    have:=ZtH 0 l k hk (by omega) l 0 out (by omega) hb (by omega)
    rw [show ((0:Nat):Int)=0 from rfl] at this
    rw [this];rfl
   ·rw [show decide ((k:Int)>(out.length:Int))=true by simp;omega,if_neg (fun e=>hb e.2.2)];rfl
  ·rw [show decide ((1:Int)≤(k:Int)∧(k:Int)≤250)=false by simp;omega,if_neg (fun e=>h2 e.2.1)];rfl
 ·rw [show decide ((3:Int)≤(l:Int)∧(l:Int)≤60)=false by simp;omega,if_neg (fun e=>h60 e.1)];rfl
inductive Tk where
 | lit (c:Nat)
 | far (l k:Nat)
def Tk.z:Tk→Int×Int×Int
 | .lit c=>((c:Int),0,0)
 | .far l k=>(0,(l:Int),(k:Int))
def agM (s:Str) (a k:Nat):Nat→Nat→Nat
 | 0,n=>n
 | f+1,n=>if a+n<s.length∧n<60∧s.getD (a+n) 0=s.getD (a+n-k) 0 then agM s a k f (n+1) else n
def ZcR (s:Str) (a:Nat):Nat→Nat×Nat
 | 0=>(0,0)
 | m+1=>if (ZcR s a m).1<agM s a (m+1) 60 0 then (agM s a (m+1) 60 0,m+1) else ZcR s a m
def ZjQ (s:Str) (a:Nat):Tk:=if (ZcR s a (min 250 a)).1<3 then .lit (s.getD a 0).toNat else .far (ZcR s a (min 250 a)).1 (ZcR s a (min 250 a)).2
def Tk.long:Tk→Nat
 | .lit _=>1
 | .far l _=>l
def Ze0 (s:Str):Nat→Nat→List Tk
 | 0,_=>[]
 | f+1,a=>if a<s.length then ZjQ s a::Ze0 s f (a+(ZjQ s a).long) else []
theorem Zxz (s:Str) (a k:Nat):∀f n,n≤60→n≤agM s a k f n∧agM s a k f n≤60
 | 0,n,h=>⟨Nat.le_refl _,h⟩
 | f+1,n,h=>by
  rw [agM]
  by_cases c:a+n<s.length∧n<60∧s.getD (a+n) 0=s.getD (a+n-k) 0
  ·rw [if_pos c];have:=Zxz s a k f (n+1) (by omega);omega
  ·rw [if_neg c];omega
theorem Zum (s:Str) (a k:Nat):∀f n i,n≤i→i<agM s a k f n→a+i<s.length∧s.getD (a+i) 0=s.getD (a+i-k) 0
 | 0,n,i,h1,h2=>by simp only [agM] at h2;omega
 | f+1,n,i,h1,h2=>by
  rw [agM] at h2
  by_cases c:a+n<s.length∧n<60∧s.getD (a+n) 0=s.getD (a+n-k) 0
  ·rw [if_pos c] at h2
   by_cases e:i=n
   ·subst e;exact ⟨c.1,c.2.2⟩
   ·exact Zum s a k f (n+1) i (by omega) h2
  ·rw [if_neg c] at h2;omega
theorem ZkK (s:Str) (a:Nat):∀m,(ZcR s a m).1≤60∧(ZcR s a m).2≤m∧(0<(ZcR s a m).1→1≤(ZcR s a m).2∧(ZcR s a m).1=agM s a (ZcR s a m).2 60 0)
 | 0=>by simp [ZcR]
 | m+1=>by
  have ih:=ZkK s a m
  have hl:=Zxz s a (m+1) 60 0 (by omega)
  rw [ZcR]
  by_cases c:(ZcR s a m).1<agM s a (m+1) 60 0
  ·rw [if_pos c];exact ⟨hl.2,Nat.le_refl _,fun _=>⟨Nat.le_add_left _ _,rfl⟩⟩
  ·rw [if_neg c];exact ⟨ih.1,by omega,ih.2.2⟩
theorem u8_eq (x y:UInt8):(((x.toNat:Int))==((y.toNat:Int)))=decide (x=y):=by
 by_cases h:x=y
 ·subst h;simp
 ·have:x.toNat≠y.toNat:=fun e=>h (UInt8.toNat_inj.1 e)
  rw [decide_eq_false h];simp;omega
theorem ZoO {α:Type} (s:Str) (hs:s.length≤1000) (a k n:Nat) (ha:a≤1000) (hk:k≤a) (hn:n<60) (x y:Option α) :
  ((bif decide (w64 ((a:Int)+(n:Int))<(s.length:Int)) then (need (decide (0≤(w64 ((a:Int)+(n:Int))))&&decide ((w64 ((a:Int)+(n:Int)))<s.length)) (need (decide (0≤(w64 ((w64 ((a:Int)+(n:Int)))-(k:Int))))&&decide ((w64 ((w64 ((a:Int)+(n:Int)))-(k:Int)))<s.length)) (some (((s.getD (w64 ((a:Int)+(n:Int))).toNat 0).toNat:Int)==((s.getD (w64 ((w64 ((a:Int)+(n:Int)))-(k:Int))).toNat 0).toNat:Int))))) else
 (some false)).bind fun c=>bif c then x else y)=if a+n<s.length∧n<60∧s.getD (a+n) 0=s.getD (a+n-k) 0 then x else y:=by
 have e1:w64 ((a:Int)+(n:Int))=((a+n:Nat):Int):=by rw [Zaf]<;>omega
 have e2:w64 (((a+n:Nat):Int)-(k:Int))=((a+n-k:Nat):Int):=by rw [Zaf]<;>omega
 rw [e1,e2]
 by_cases h1:a+n<s.length
 ·rw [Zab _ (Zax h1),Zab _ (Zax (by omega)),decide_eq_true (show (((a+n:Nat):Int)<(s.length:Int)) by omega),Int.toNat_natCast,Int.toNat_natCast,u8_eq,cond_true]
  simp only [Zae,Za9]
  by_cases h2:s.getD (a+n) 0=s.getD (a+n-k) 0
  ·rw [if_pos h2,if_pos ⟨h1,hn,h2⟩]
  ·rw [if_neg h2,if_neg (fun e=>h2 e.2.2)]
 ·rw [if_neg (fun e=>h1 e.1),decide_eq_false (show ¬(((a+n:Nat):Int)<(s.length:Int)) by omega)];rfl
theorem Zol (s:Str) (hs:s.length≤1000) (a k:Nat) (ha:a≤1000) (hk:k≤a):∀(j f n:Nat),n+j=60→j≤f→Zci.l0 (f+1) (s,(a:Int),(k:Int),(n:Int))=some (agM s a k j n:Int)
 | 0,f,n,h,hf=>by
  rw [Zci.l0.succ];simp only [Zci.l0.step,agM]
  have hn:n=60:=by omega
  subst hn
  rw [show decide (((60:Nat):Int)<60)=false by decide]
  simp only [cond_false]
  cases decide (w64 ((a:Int)+((60:Nat):Int))<(s.length:Int))<;>rfl
 | j+1,0,n,h,hf=>by omega
 | j+1,f+1,n,h,hf=>by
  rw [Zci.l0.succ];simp only [Zci.l0.step]
  rw [agM,decide_eq_true (show ((n:Int)<60) by omega),cond_true,ZoO s hs a k n ha hk (by omega),Zaf (by omega) (by omega),show (n:Int)+1=((n+1:Nat):Int) by omega,
   Zol s hs a k ha hk j f (n+1) (by omega) (by omega)]
  split<;>rfl
theorem Zu4 (s:Str) (hs:s.length≤1000) (a k:Nat) (ha:a≤1000) (hk:k≤a):Zci s (a:Int) (k:Int)=some (agM s a k 60 0:Int):=by
 unfold Zci
 have h:=Zol s hs a k ha hk 60 61 0 rfl (by omega)
 rw [show ((0:Nat):Int)=0 from rfl] at h
 rw [h];rfl
theorem ZlQ (s:Str) (hs:s.length≤1000) (a k:Nat) (ha:a≤1000) (hk:k≤a) (out:List (Int×Int×Int)) (o3 o4 o5:Int):∀(j n:Nat),n+j=60→
  Zay.l0 (j+1) (s,(a:Int),(k:Int),(n:Int),out,o3,o4,o5)=some (s,(a:Int),(k:Int),(agM s a k j n:Int),out,o3,o4,o5)
 | 0,n,h=>by
  rw [Zay.l0.succ];simp only [Zay.l0.step,agM]
  have hn:n=60:=by omega
  subst hn
  rfl
 | j+1,n,h=>by
  rw [Zay.l0.succ];simp only [Zay.l0.step]
  rw [agM,decide_eq_true (show ((n:Int)<60) by omega),cond_true,ZoO s hs a k n ha hk (by omega),Zaf (by omega) (by omega),show (n:Int)+1=((n+1:Nat):Int) by omega,
   ZlQ s hs a k ha hk out o3 o4 o5 j (n+1) (by omega)]
  split<;>rfl
def ZpJ (c:Int) (b:Nat×Nat):Int×Int×Int:=if b.1<3 then (c,0,0) else (0,(b.1:Int),(b.2:Int))
theorem Zvo (c:Int) (b:Nat×Nat) (n k:Nat):(ZpJ c (if b.1<n then (n,k) else b))=if 3≤n∧(ZpJ c b).2.1<(n:Int) then (0,(n:Int),(k:Int)) else ZpJ c b:=by
 unfold ZpJ
 by_cases h1:b.1<n<;>by_cases h2:b.1<3<;>by_cases h3:n<3 <;>
  simp only [h1,h2,h3,if_true,if_false]<;>(first | (exfalso;omega) | (rw [if_pos (by simp;omega)]) | (rw [if_neg (by simp;omega)]) | rfl)
theorem ZgR (s:Str) (hs:s.length≤1000) (a:Nat) (ha:a≤1000) (out:List (Int×Int×Int)) (c:Int):∀(j m:Nat),m+j=min 250 a→∀(b:Int×Int×Int),b=ZpJ c (ZcR s a m)→
  Zay.l1 (j+1) (s,(a:Int),((m+1:Nat):Int),out,b)=some (s,(a:Int),out,ZpJ c (ZcR s a (min 250 a)))
 | 0,m,h,(b1,b2,b3),hb=>by
  have hm:m=min 250 a:=by omega
  subst hm
  rw [Zay.l1.succ];simp only [Zay.l1.step]
  rw [show (250:Int)=((250:Nat):Int) from rfl,Zlu,decide_eq_false (by omega),hb];rfl
 | j+1,m,h,(b1,b2,b3),hb=>by
  rw [Zay.l1.succ];simp only [Zay.l1.step]
  have h0:=ZlQ s hs a (m+1) ha (by omega) out b1 b2 b3 60 0 (by omega)
  rw [show ((0:Nat):Int)=0 from rfl] at h0
  rw [show (250:Int)=((250:Nat):Int) from rfl,Zlu,decide_eq_true (by omega),cond_true,show ((60:Int)-0).toNat=60 from rfl,h0]
  have ha2:=Zxz s a (m+1) 60 0 (by omega)
  simp only [Zae]
  rw [Zaf (by omega) (by omega),show ((m+1:Nat):Int)+1=((m+1+1:Nat):Int) by omega]
  have hn:=Zvo c (ZcR s a m) (agM s a (m+1) 60 0) (m+1)
  have e:ZcR s a (m+1)=if (ZcR s a m).1<agM s a (m+1) 60 0 then (agM s a (m+1) 60 0,m+1) else ZcR s a m:=rfl
  rw [←e,←hb] at hn
  dsimp only at hn
  by_cases h3:3≤agM s a (m+1) 60 0
  ·rw [show decide (((agM s a (m+1) 60 0:Nat):Int)≥3)=true by simp;omega]
   simp only [cond_true,Zae,Za9]
   by_cases h4:b2<((agM s a (m+1) 60 0:Nat):Int)
   ·rw [if_pos ⟨h3,h4⟩] at hn
    rw [if_pos (show ((agM s a (m+1) 60 0:Nat):Int)>b2 from h4)]
    exact ZgR s hs a ha out c j (m+1) (by omega) _ hn.symm
   ·rw [if_neg (fun e=>h4 e.2)] at hn
    rw [if_neg (show ¬((agM s a (m+1) 60 0:Nat):Int)>b2 from h4)]
    exact ZgR s hs a ha out c j (m+1) (by omega) _ hn.symm
  ·rw [show decide (((agM s a (m+1) 60 0:Nat):Int)≥3)=false by simp;omega]
   rw [if_neg (fun e=>h3 e.1)] at hn
   simp only [cond_false,Zae]
   exact ZgR s hs a ha out c j (m+1) (by omega) _ hn.symm
theorem Zxu (s:Str) (a:Nat):ZpJ ((s.getD a 0).toNat:Int) (ZcR s a (min 250 a))=(ZjQ s a).z:=by
 unfold ZpJ ZjQ
 split<;>rfl
theorem Zyj (x:Int) (h:1≤x):Zvv x 1=x:=by
 unfold Zvv;split<;>omega
theorem ZlS (s:Str) (a:Nat):1≤(ZjQ s a).long∧(ZjQ s a).long≤60∧Zvv (ZjQ s a).z.2.1 1=((ZjQ s a).long:Int):=by
 have h:=ZkK s a (min 250 a)
 unfold ZjQ
 by_cases c:(ZcR s a (min 250 a)).1<3
 ·rw [if_pos c];exact ⟨Nat.le_refl _,by simp [Tk.long],by simp [Tk.z,Tk.long,Zvv]⟩
 ·rw [if_neg c]
  exact ⟨by simp only [Tk.long];omega,h.1,Zyj _ (by simp only [Tk.z];omega)⟩
theorem ZlP (s:Str) (hs:s.length≤300):∀(j a:Nat),s.length≤a+j→a≤600→∀out:List (Int×Int×Int),out.length≤a→
  Zay.l2 (j+1) (s,(a:Int),out)=some (out++(Ze0 s j a).map Tk.z)
 | 0,a,h,ha,out,ho=>by
  rw [Zay.l2.succ];simp only [Zay.l2.step]
  rw [ZaL (by omega)];simp [Ze0]
 | j+1,a,h,ha,out,ho=>by
  rw [Zay.l2.succ];simp only [Zay.l2.step]
  by_cases hlt:a<s.length
  ·have h1:=ZgR s (by omega) a (by omega) out ((s.getD a 0).toNat:Int) (min 250 a) 0 (by omega) (((s.getD a 0).toNat:Int),0,0) (by simp [ZpJ,ZcR])
   rw [show ((0+1:Nat):Int)=1 from rfl] at h1
   have hb:(s.getD a 0).toNat<256:=UInt8.toNat_lt _
   have hm:((ZpQ 250 (a:Int))-1).toNat+2=min 250 a+1∨(min 250 a=0∧((ZpQ 250 (a:Int))-1).toNat+2=2):=by
    rw [show (250:Int)=((250:Nat):Int) from rfl,Zlu];omega
   rw [ZaK hlt,cond_true,Zab _ Zas,Int.toNat_natCast,Zaf (n:=((s.getD a 0).toNat:Int)) (by omega) (by omega)]
   have h1':Zay.l1 (((ZpQ 250 (a:Int))-1).toNat+2) (s,(a:Int),1,out,((s.getD a 0).toNat:Int),0,0)=some (s,(a:Int),out,(ZjQ s a).z):=by
    rw [←Zxu]
    rcases hm with e | ⟨e0,e⟩
    ·rw [e];exact h1
    ·rw [e]
     have a0:a=0:=by omega
     subst a0
     rfl
   rw [h1']
   obtain ⟨t1,t2,t3⟩:=ZlS s a
   rcases hz:(ZjQ s a).z with ⟨z1,z2,z3⟩
   rw [hz] at t3
   simp only [Zae]
   dsimp only at t3
   rw [Zad (by simp;omega),t3,Zaf (by omega) (by omega),show (a:Int)+((ZjQ s a).long:Int)=((a+(ZjQ s a).long:Nat):Int) by omega,
    ZlP s hs j (a+(ZjQ s a).long) (by omega) (by omega) _ (by simp;omega)]
   rw [Ze0,if_pos hlt,List.map_cons,hz];simp
  ·rw [ZaL (by omega),Ze0,if_neg hlt];simp
def Zii (s:Str):List Tk:=Ze0 s s.length 0
theorem ZlR (s:Str) (hs:s.length≤300):Zay s=some ((Zii s).map Tk.z):=by
 unfold Zay
 rw [decide_eq_false (by omega),cond_false,ZaC]
 have h:=ZlP s hs s.length 0 (by omega) (by omega) [] (by simp)
 rw [show ((0:Nat):Int)=0 from rfl] at h
 rw [h];simp [Zii]
theorem ZiP (s:Str) (hs:s.length≤1000) (a:Nat) (ha:a≤1000) (out:List (Int×Int×Int)):∀(j f m:Nat),m+j=min 250 a→j≤f→∀(l k:Int),l=((ZcR s a m).1:Int)→k=((ZcR s a m).2:Int)→
  ZaO.l0 (f+1) (s,(a:Int),l,k,((m+1:Nat):Int),out)=some (s,(a:Int),((ZcR s a (min 250 a)).1:Int),((ZcR s a (min 250 a)).2:Int),out)
 | 0,f,m,h,hf,l,k,hl,hk=>by
  have hm:m=min 250 a:=by omega
  rw [ZaO.l0.succ];simp only [ZaO.l0.step]
  subst hl hk
  by_cases h1:m+1≤250
  ·rw [decide_eq_true (show (((m+1:Nat):Int)≤250) by omega),decide_eq_false (show ¬(((m+1:Nat):Int)≤(a:Int)) by omega),hm];rfl
  ·rw [decide_eq_false (show ¬(((m+1:Nat):Int)≤250) by omega),hm];rfl
 | j+1,0,m,h,hf,l,k,hl,hk=>by omega
 | j+1,f+1,m,h,hf,l,k,hl,hk=>by
  rw [ZaO.l0.succ];simp only [ZaO.l0.step]
  rw [decide_eq_true (show (((m+1:Nat):Int)≤250) by omega),decide_eq_true (show (((m+1:Nat):Int)≤(a:Int)) by omega)]
  simp only [cond_true,Zae]
  rw [Zu4 s hs a (m+1) ha (by omega)]
  simp only [Zae,Za9]
  rw [Zaf (by omega) (by omega),show ((m+1:Nat):Int)+1=((m+1+1:Nat):Int) by omega]
  have e:ZcR s a (m+1)=if (ZcR s a m).1<agM s a (m+1) 60 0 then (agM s a (m+1) 60 0,m+1) else ZcR s a m:=rfl
  subst hl hk
  by_cases c:(ZcR s a m).1<agM s a (m+1) 60 0
  ·rw [if_pos (by omega)]
   rw [if_pos c] at e
   exact ZiP s hs a ha out j f (m+1) (by omega) (by omega) _ _ (by rw [e]) (by rw [e])
  ·rw [if_neg (by omega)]
   rw [if_neg c] at e
   exact ZiP s hs a ha out j f (m+1) (by omega) (by omega) _ _ (by rw [e]) (by rw [e])
theorem ZiO (s:Str) (hs:s.length≤300):∀(j a:Nat),s.length≤a+j→a≤600→∀out:List (Int×Int×Int),out.length≤a→
  ZaO.l1 (j+1) (s,(a:Int),out)=some (out++(Ze0 s j a).map Tk.z)
 | 0,a,h,ha,out,ho=>by
  rw [ZaO.l1.succ];simp only [ZaO.l1.step]
  rw [ZaL (by omega)];simp [Ze0]
 | j+1,a,h,ha,out,ho=>by
  rw [ZaO.l1.succ];simp only [ZaO.l1.step]
  by_cases hlt:a<s.length
  ·have h1:=ZiP s (by omega) a (by omega) out (min 250 a) 250 0 (by omega) (by omega) 0 0 (by simp [ZcR]) (by simp [ZcR])
   rw [show ((0+1:Nat):Int)=1 from rfl] at h1
   have hb:(s.getD a 0).toNat<256:=UInt8.toNat_lt _
   obtain ⟨t1,t2,t3⟩:=ZlS s a
   rw [ZaK hlt,cond_true,show ((250:Int)-1).toNat+2=251 from rfl,h1]
   simp only [Zae,Za9]
   rw [Ze0,if_pos hlt,List.map_cons]
   by_cases c:(ZcR s a (min 250 a)).1<3
   ·have et:ZjQ s a=.lit (s.getD a 0).toNat:=by unfold ZjQ;rw [if_pos c]
    rw [if_pos (by omega),Zab _ (Zax hlt),Zad (by simp;omega),Int.toNat_natCast,Zaf (n:=((s.getD a 0).toNat:Int)) (by omega) (by omega),Zaf (by omega) (by omega),
     show (a:Int)+1=((a+1:Nat):Int) by omega,ZiO s hs j (a+1) (by omega) (by omega) _ (by simp;omega),et]
    simp [Tk.z,Tk.long]
   ·have et:ZjQ s a=.far (ZcR s a (min 250 a)).1 (ZcR s a (min 250 a)).2:=by unfold ZjQ;rw [if_neg c]
    rw [et] at t1 t2
    simp only [Tk.long] at t1 t2
    rw [if_neg (by omega),Zad (by simp;omega),Zaf (by omega) (by omega),
     show (a:Int)+((ZcR s a (min 250 a)).1:Int)=((a+(ZcR s a (min 250 a)).1:Nat):Int) by omega,ZiO s hs j (a+(ZcR s a (min 250 a)).1) (by omega) (by omega) _ (by simp;omega),et]
    simp [Tk.z,Tk.long]
  ·rw [ZaL (by omega),Ze0,if_neg hlt];simp
theorem Zmv (s:Str) (hs:s.length≤300):ZaO s=some ((Zii s).map Tk.z):=by
 unfold ZaO
 rw [ZaC]
 have h:=ZiO s hs s.length 0 (by omega) (by omega) [] (by simp)
 rw [show ((0:Nat):Int)=0 from rfl] at h
 rw [h];simp [Zii]
end Ev
end
section
namespace Ev
open Go
def ints (s:Str):List Int:=s.map fun c=>(c.toNat:Int)
theorem ZdK (s:Str):(ints s).length=s.length:=by simp [ints]
theorem ZwR (s:Str) (i:Nat):(ints s).getD i 0=((s.getD i 0).toNat:Int):=by
 by_cases h:i<s.length
 ·rw [Zan (by rw [ZdK];exact h),Zan h];simp [ints]
 ·simp [ints,List.getD,Nat.le_of_not_lt h]
theorem ZmB (s t:Str):ints (s++t)=ints s++ints t:=by simp [ints]
theorem Zj0 {α:Type} (s:List α) (n:Nat) (d:α) (h:n<s.length):s.take (n+1)=s.take n++[s.getD n d]:=by
 rw [List.take_succ_eq_append_getElem h,Zan h]
theorem ZvJ {α:Type} (s:List α) (n i:Nat) (d:α) (h:i<n):(s.take n).getD i d=s.getD i d:=by
 simp [List.getD,List.getElem?_take,h]
theorem ZrH (s:Str) (a l k:Nat) (hk:1≤k) (hka:k≤a) (h:∀i,i<l→a+i<s.length∧s.getD (a+i) 0=s.getD (a+i-k) 0):∀(j i:Nat),i+j=l→
  ZrI k j (ints (s.take (a+i)))=ints (s.take (a+l))
 | 0,i,hi=>by rw [show i=l by omega];rfl
 | j+1,i,hi=>by
  obtain ⟨h1,h2⟩:=h i (by omega)
  rw [ZrI,ZdK,List.length_take,Nat.min_eq_left (by omega),ZwR,ZvJ _ _ _ _ (by omega),←h2]
  have e:ints (s.take (a+i))++[((s.getD (a+i) 0).toNat:Int)]=ints (s.take (a+(i+1))):=by
   rw [←Nat.add_assoc,Zj0 s (a+i) 0 h1,ZmB];rfl
  rw [e]
  exact ZrH s a l k hk hka h j (i+1) (by omega)
theorem Zs9 {s:Str} {a c:Nat} (h:ZjQ s a=.lit c):c=(s.getD a 0).toNat:=by
 unfold ZjQ at h
 split at h
 ·exact (Tk.lit.inj h).symm
 ·cases h
theorem Zta {s:Str} {a l k:Nat} (h:ZjQ s a=.far l k) (ha:a≤s.length):3≤l∧l≤60∧1≤k∧k≤250∧a+l≤s.length∧ZpR (ints (s.take a)) l k=some (ints (s.take (a+l))):=by
 have hb:=ZkK s a (min 250 a)
 unfold ZjQ at h
 by_cases c:(ZcR s a (min 250 a)).1<3
 ·rw [if_pos c] at h;cases h
 ·rw [if_neg c] at h
  obtain ⟨rfl,rfl⟩:=Tk.far.inj h
  obtain ⟨h1,h2,h3⟩:=hb
  obtain ⟨h4,h5⟩:=h3 (by omega)
  have hs:∀i,i<(ZcR s a (min 250 a)).1→a+i<s.length∧s.getD (a+i) 0=s.getD (a+i-(ZcR s a (min 250 a)).2) 0:=fun i hi=>
   Zum s a (ZcR s a (min 250 a)).2 60 0 i (Nat.zero_le _) (by rw [←h5];exact hi)
  have hlast:=(hs ((ZcR s a (min 250 a)).1-1) (by omega)).1
  refine ⟨by omega,h1,h4,by omega,by omega,?_⟩
  unfold ZpR
  rw [ZdK,List.length_take,Nat.min_eq_left ha,if_pos ⟨h1,by omega,by omega⟩]
  have:=ZrH s a _ _ h4 (by omega) hs (ZcR s a (min 250 a)).1 0 (by omega)
  rw [Nat.add_zero] at this
  rw [this]
def ZcB:List Nat:=[0,0,0,0,0,0,0,0,1,1,1,1,2,2,2,2,3,3,3,3,4,4,4,4,5,5,5,5]
def ZaF:List Nat:=[3,4,5,6,7,8,9,10,11,13,15,17,19,23,27,31,35,43,51,59,67,83,99,115,131,163,195,227]
def Zdk:List Nat:=[0,0,0,0,1,1,2,2,3,3,4,4,5,5,6,6,7,7,8,8,9,9,10,10,11,11,12,12,13,13]
def ZaV:List Nat:=[1,2,3,4,5,7,9,13,17,25,33,49,65,97,129,193,257,385,513,769,1025,1537,2049,3073,4097,6145,8193,12289,16385,24577]
theorem Zkj:Zb2=some (zs ZaF,zs ZcB):=by kernel_rfl
theorem ZkL:Zb6=some (zs ZaV,zs Zdk):=by kernel_rfl
theorem Zfp:Zbd=some (zs ZcB):=by kernel_rfl
theorem Zfq:Zbe=some (zs Zdk):=by kernel_rfl
theorem ZiM:ZcV (zs ZcB) 3=some (zs ZaF):=by kernel_rfl
theorem ZiN:ZcV (zs Zdk) 1=some (zs ZaV):=by kernel_rfl
def ZmQ:List Nat:=List.replicate 144 8++List.replicate 112 9++List.replicate 24 7++List.replicate 8 8
def Zny:List Nat:=List.replicate 32 5
theorem Zlb:Zbs=some (zs ZmQ,zs Zny):=by kernel_rfl
theorem Zoj:Zc2=some (zs ZmQ):=by kernel_rfl
theorem Zok:Zc3=some (zs Zny):=by kernel_rfl
def Zb1 (F:List Nat) (n:Nat):Nat:=(F.filter fun x=>decide (x≤n)).length-1
def chkL:Bool:=(List.range 58).all fun i=>
 (Zcp (zs ZaF) (zs ZcB) ((i+3:Nat):Int)==some ((Zb1 ZaF (i+3):Nat):Int))&&(Ze6 (zs ZaF) ((i+3:Nat):Int)==some ((Zb1 ZaF (i+3):Nat):Int))&&
 decide (Zb1 ZaF (i+3)<28)&&decide (ZaF.getD (Zb1 ZaF (i+3)) 0≤i+3)&&decide (i+3-ZaF.getD (Zb1 ZaF (i+3)) 0<2^ZcB.getD (Zb1 ZaF (i+3)) 0)
def chkD:Bool:=(List.range 250).all fun i=>
 (Zcp (zs ZaV) (zs Zdk) ((i+1:Nat):Int)==some ((Zb1 ZaV (i+1):Nat):Int))&&(Ze6 (zs ZaV) ((i+1:Nat):Int)==some ((Zb1 ZaV (i+1):Nat):Int))&&
 decide (Zb1 ZaV (i+1)<30)&&decide (ZaV.getD (Zb1 ZaV (i+1)) 0≤i+1)&&decide (i+1-ZaV.getD (Zb1 ZaV (i+1)) 0<2^Zdk.getD (Zb1 ZaV (i+1)) 0)
theorem ZzT:chkL=true:=by kernel_rfl
theorem ZzU:chkD=true:=by kernel_rfl
theorem Zfj (n:Nat) (h1:3≤n) (h2:n≤60):Zcp (zs ZaF) (zs ZcB) (n:Int)=some ((Zb1 ZaF n:Nat):Int)∧Ze6 (zs ZaF) (n:Int)=some ((Zb1 ZaF n:Nat):Int)∧
  Zb1 ZaF n<28∧ZaF.getD (Zb1 ZaF n) 0≤n∧n-ZaF.getD (Zb1 ZaF n) 0<2^ZcB.getD (Zb1 ZaF n) 0:=by
 have h:=List.all_eq_true.1 ZzT (n-3) (List.mem_range.2 (by omega))
 rw [show n-3+3=n by omega] at h
 simp only [Bool.and_eq_true,beq_iff_eq,decide_eq_true_eq] at h
 exact ⟨h.1.1.1.1,h.1.1.1.2,h.1.1.2,h.1.2,h.2⟩
theorem ZfW (n:Nat) (h1:1≤n) (h2:n≤250):Zcp (zs ZaV) (zs Zdk) (n:Int)=some ((Zb1 ZaV n:Nat):Int)∧Ze6 (zs ZaV) (n:Int)=some ((Zb1 ZaV n:Nat):Int)∧
  Zb1 ZaV n<30∧ZaV.getD (Zb1 ZaV n) 0≤n∧n-ZaV.getD (Zb1 ZaV n) 0<2^Zdk.getD (Zb1 ZaV n) 0:=by
 have h:=List.all_eq_true.1 ZzU (n-1) (List.mem_range.2 (by omega))
 rw [show n-1+1=n by omega] at h
 simp only [Bool.and_eq_true,beq_iff_eq,decide_eq_true_eq] at h
 exact ⟨h.1.1.1.1,h.1.1.1.2,h.1.1.2,h.1.2,h.2⟩
theorem Zjh (k:Nat):ZcB.getD k 0≤5:=by
 by_cases h:k<28
 ·have:(List.range 28).all (fun k=>decide (ZcB.getD k 0≤5))=true:=by decide
  simpa using List.all_eq_true.1 this k (List.mem_range.2 h)
 ·simp [List.getD,show ZcB.length=28 from rfl,Nat.le_of_not_lt h]
theorem ZjL (k:Nat):Zdk.getD k 0≤13:=by
 by_cases h:k<30
 ·have:(List.range 30).all (fun k=>decide (Zdk.getD k 0≤13))=true:=by decide
  simpa using List.all_eq_true.1 this k (List.mem_range.2 h)
 ·simp [List.getD,show Zdk.length=30 from rfl,Nat.le_of_not_lt h]
def Tk.Ok:Tk→Prop
 | .lit c=>c<256
 | .far l k=>3≤l∧l≤60∧1≤k∧k≤250
theorem Zlr (s:Str):∀f a,a≤s.length→∀t∈Ze0 s f a,t.Ok
 | 0,a,ha,t,h=>by simp [Ze0] at h
 | f+1,a,ha,t,h=>by
  rw [Ze0] at h
  by_cases hlt:a<s.length
  ·rw [if_pos hlt] at h
   cases hk:ZjQ s a with
   | lit c=>
    rw [hk] at h
    rcases List.mem_cons.1 h with rfl | h
    ·rw [Zs9 hk];exact UInt8.toNat_lt _
    ·exact Zlr s f (a+1) (by omega) t h
   | far l k=>
    have hf:=Zta hk ha
    rw [hk] at h
    rcases List.mem_cons.1 h with rfl | h
    ·exact ⟨hf.1,hf.2.1,hf.2.2.1,hf.2.2.2.1⟩
    ·exact Zlr s f (a+l) (by omega) t h
  ·rw [if_neg hlt] at h;simp at h
theorem ZkP (s:Str):∀f a,(Ze0 s f a).length≤f
 | 0,a=>by simp [Ze0]
 | f+1,a=>by
  rw [Ze0];split
  ·have:=ZkP s f (a+(ZjQ s a).long);simp;omega
  ·simp
def ZpP (ls ds:List Nat):Tk→List Bool
 | .lit c=>Zi2 ls c
 | .far l k=>Zi2 ls (257+Zb1 ZaF l)++(ZbS (l-ZaF.getD (Zb1 ZaF l) 0) (ZcB.getD (Zb1 ZaF l) 0)++(Zi2 ds (Zb1 ZaV k)++ZbS (k-ZaV.getD (Zb1 ZaV k) 0) (Zdk.getD (Zb1 ZaV k) 0)))
def ZfB (ls ds:List Nat):List Tk→List Bool
 | []=>Zi2 ls 256
 | t::r=>ZpP ls ds t++ZfB ls ds r
def Tk.In (ls ds:List Nat):Tk→Prop
 | .lit c=>c<ls.length
 | .far l k=>257+Zb1 ZaF l<ls.length∧Zb1 ZaV k<ds.length
theorem Zcv (ns:List Nat) (i:Nat) (hi:i<ns.length) (h15:∀n∈ns,n≤15):(Zi2 ns i).length≤15:=by
 have hm:ns.getD i 0≤15:=by rw [Zan hi];exact h15 _ (List.getElem_mem hi)
 simp [Zi2,msb,Zak];exact hm
theorem ZgS (ls ds:List Nat) (hl:∀n∈ls,n≤15) (hd:∀n∈ds,n≤15) (t:Tk) (h:t.In ls ds):(ZpP ls ds t).length≤48:=by
 cases t with
 | lit c=>have:=Zcv ls c h hl;simp only [ZpP];omega
 | far l k=>
  have h1:=Zcv ls _ h.1 hl
  have h2:=Zcv ds _ h.2 hd
  have h3:=Zjh (Zb1 ZaF l)
  have h4:=ZjL (Zb1 ZaV k)
  simp only [ZpP,List.length_append,Zak];omega
end Ev
end
section
namespace Ev
open Go
theorem Zaa {α β:Type} (a:α) (f:α→Option β):(some a).bind f=f a:=Eq.trans rfl rfl
def Zgq (ls ds:List Nat) (ts:List Tk):List Bool:=ts.flatMap (ZpP ls ds)
theorem Zgt (ls ds:List Nat):∀ts,ZfB ls ds ts=Zgq ls ds ts++Zi2 ls 256
 | []=>rfl
 | t::r=>by rw [ZfB,Zgt ls ds r];simp [Zgq]
theorem Zlo (ts:List Tk) (i:Nat) (h:i<ts.length):(ts.map Tk.z).getD i (0,0,0)=(ts[i]).z:=by
 rw [Zan (by simpa using h)];simp
theorem ZnE (ls ds:List Nat) (hkl:ZbB ls≤32768) (hkd:ZbB ds≤32768) (hl:∀n∈ls,n≤15) (hd:∀n∈ds,n≤15) (ts:List Tk) (hts:∀t∈ts,t.Ok∧t.In ls ds) (hn:ts.length≤1000) :
  ∀(j i:Nat) (l:List Bool),i+j=ts.length→l.length+48*j≤70000000→
  ZbP.l0 (j+1) (zs ls,zs ds,ts.map Tk.z,(ts.length:Int),(i:Int),(l.length:Int),zs (Zb7 ls),zs (Zb7 ds),Zfm l) =
   some (zs ls,(((l++Zgq ls ds (ts.drop i)).length:Nat):Int),zs (Zb7 ls),Zfm (l++Zgq ls ds (ts.drop i)))
 | 0,i,l,hi,hb=>by
  rw [ZbP.l0.succ];simp only [ZbP.l0.step]
  rw [ZaL (by omega),List.drop_eq_nil_of_le (by omega)];simp [Zgq]
 | j+1,i,l,hi,hb=>by
  have hlt:i<ts.length:=by omega
  obtain ⟨hok,hin⟩:=hts ts[i] (List.getElem_mem hlt)
  have hdr:ts.drop i=ts[i]::ts.drop (i+1):=List.drop_eq_getElem_cons hlt
  have htl:=ZgS ls ds hl hd ts[i] hin
  have ih:=ZnE ls ds hkl hkd hl hd ts hts hn j (i+1) (l++ZpP ls ds ts[i]) (by omega) (by simp;omega)
  have e:Zgq ls ds (ts.drop i)=ZpP ls ds ts[i]++Zgq ls ds (ts.drop (i+1)):=by rw [hdr];rfl
  rw [e,←List.append_assoc,←ih]
  rw [ZbP.l0.succ];simp only [ZbP.l0.step]
  rw [ZaK hlt,cond_true,Zab _ (by rw [List.length_map];exact Zax hlt),Int.toNat_natCast,Zlo ts i hlt,Zaf (n:=(i:Int)+1) (by omega) (by omega),show (i:Int)+1=((i+1:Nat):Int) by omega]
  cases hk:ts[i] with
  | lit c=>
   rw [hk] at hok hin
   have hc:=Zi3 ls hkl hl c hin l (by omega)
   simp only [Tk.z]
   rw [show ((0:Int)==0)=true from rfl,cond_true,hc]
   simp only [Zaa,ZpP]
  | far n k=>
   rw [hk] at hok hin
   obtain ⟨o1,o2,o3,o4⟩:=hok
   obtain ⟨i1,i2⟩:=hin
   obtain ⟨a1,a2,a3,a4,a5⟩:=Zfj n o1 o2
   obtain ⟨b1,b2,b3,b4,b5⟩:=ZfW k o3 o4
   have hlb:=Zjh (Zb1 ZaF n)
   have hbb:=ZjL (Zb1 ZaV k)
   have hs1:=Zcv ls (257+Zb1 ZaF n) i1 hl
   have hs2:=Zcv ds (Zb1 ZaV k) i2 hd
   have c1:=Zi3 ls hkl hl _ i1 l (by omega)
   have c2:=ZeF (n-ZaF.getD (Zb1 ZaF n) 0) (ZcB.getD (Zb1 ZaF n) 0) (by omega) (by omega) (l++Zi2 ls (257+Zb1 ZaF n)) (by simp only [List.length_append];omega)
   have c3:=Zi3 ds hkd hd _ i2 ((l++Zi2 ls (257+Zb1 ZaF n))++ZbS (n-ZaF.getD (Zb1 ZaF n) 0) (ZcB.getD (Zb1 ZaF n) 0)) (by simp only [List.length_append,Zak];omega)
   have c4:=ZeF (k-ZaV.getD (Zb1 ZaV k) 0) (Zdk.getD (Zb1 ZaV k) 0) (by omega) (by omega) (((l++Zi2 ls (257+Zb1 ZaF n))++ZbS (n-ZaF.getD (Zb1 ZaF n) 0) (ZcB.getD (Zb1 ZaF n) 0))++Zi2 ds (Zb1 ZaV k)) (by simp only [List.length_append,Zak];omega)
   have eL:=Zkj
   have eB:=ZkL
   have gL:=fun i:Nat=>ZaN ZaF i
   have gM:=fun i:Nat=>ZaN ZcB i
   have gB:=fun i:Nat=>ZaN ZaV i
   have gC:=fun i:Nat=>ZaN Zdk i
   have nL:(zs ZaF).length=28:=Zag ZaF
   have nM:(zs ZcB).length=28:=Zag ZcB
   have nB:(zs ZaV).length=30:=Zag ZaV
   have nC:(zs Zdk).length=30:=Zag Zdk
   generalize zs ZaF=A at eL a1 a2 gL nL
   generalize zs ZcB=A' at eL a1 gM nM
   generalize zs ZaV=B at eB b1 b2 gB nB
   generalize zs Zdk=B' at eB b1 gC nC
   simp only [Tk.z]
   rw [show ((n:Int)==0)=false by simp;omega,cond_false,eL,eB]
   simp only [Zaa]
   rw [a1]
   simp only [Zaa]
   rw [Zaf (n:=257+((Zb1 ZaF n:Nat):Int)) (by omega) (by omega),show (257:Int)+((Zb1 ZaF n:Nat):Int)=((257+Zb1 ZaF n:Nat):Int) by omega,c1]
   simp only [Zaa]
   rw [Zab _ (Zax (by rw [nL];exact a3)),Zab _ (Zax (by rw [nM];exact a3)),Int.toNat_natCast,gL,gM,
    Zaf (n:=(n:Int)-((ZaF.getD (Zb1 ZaF n) 0:Nat):Int)) (by omega) (by omega),show (n:Int)-((ZaF.getD (Zb1 ZaF n) 0:Nat):Int)=((n-ZaF.getD (Zb1 ZaF n) 0:Nat):Int) by omega,c2]
   simp only [Zaa]
   rw [b1]
   simp only [Zaa]
   rw [c3]
   simp only [Zaa]
   rw [Zab _ (Zax (by rw [nB];exact b3)),Zab _ (Zax (by rw [nC];exact b3)),Int.toNat_natCast,gB,gC,
    Zaf (n:=(k:Int)-((ZaV.getD (Zb1 ZaV k) 0:Nat):Int)) (by omega) (by omega),show (k:Int)-((ZaV.getD (Zb1 ZaV k) 0:Nat):Int)=((k-ZaV.getD (Zb1 ZaV k) 0:Nat):Int) by omega,c4]
   simp only [Zaa,ZpP,List.append_assoc]
theorem ZnF (ls ds:List Nat) (hkl:ZbB ls≤32768) (hkd:ZbB ds≤32768) (hl:∀n∈ls,n≤15) (hd:∀n∈ds,n≤15) (h1:ls.length≤300) (h2:ds.length≤300) (h256:256<ls.length) (ts:List Tk) (hts:∀t∈ts,t.Ok∧t.In ls ds) (hn:ts.length≤1000)
  (l:List Bool) (hb:l.length≤60000000):ZbP (ts.map Tk.z) (zs ls) (zs ds) (l.length:Int) (Zfm l)=some ((((l++ZfB ls ds ts).length:Nat):Int),Zfm (l++ZfB ls ds ts)):=by
 unfold ZbP
 rw [ZlF ls (by omega),ZlF ds (by omega)]
 simp only [Zae,List.length_map]
 rw [ZaC]
 have h:=ZnE ls ds hkl hkd hl hd ts hts hn ts.length 0 l (by omega) (by omega)
 rw [show ((0:Nat):Int)=0 from rfl] at h
 rw [h,List.drop_zero]
 simp only [Zae]
 have hbl:(Zgq ls ds ts).length≤48*ts.length:=by
  clear h hn hb
  induction ts with
  | nil=>simp [Zgq]
  | cons t r ih=>
   have:=ih (fun t h=>hts t (List.mem_cons_of_mem _ h))
   have ht:=ZgS ls ds hl hd t (hts t (List.mem_cons_self ..)).2
   simp only [Zgq,List.flatMap_cons,List.length_append,List.length_cons] at this ⊢;omega
 have hc:=Zi3 ls hkl hl 256 h256 (l++Zgq ls ds ts) (by simp;omega)
 rw [show ((256:Nat):Int)=256 from rfl] at hc
 rw [hc,Zgt]
 simp only [Zae,List.append_assoc]
theorem Zn2 (ls ds:List Nat) (hkl:ZbB ls≤32768) (hkd:ZbB ds≤32768) (hl:∀n∈ls,n≤15) (hd:∀n∈ds,n≤15) (ts:List Tk) (hts:∀t∈ts,t.Ok∧t.In ls ds) (hn:ts.length≤1000) :
  ∀(j i:Nat) (l:List Bool),i+j=ts.length→l.length+48*j≤70000000→
  ZbR.l0 (j+1) (ts.map Tk.z,zs ls,zs ds,(i:Int),(oL l:Int),((l.length%8:Nat):Int),zs (Zb7 ls),zs (Zb7 ds),zs ZaF,zs ZaV,oT l) =
   some (zs ls,(oL (l++Zgq ls ds (ts.drop i)):Int),(((l++Zgq ls ds (ts.drop i)).length%8:Nat):Int),zs (Zb7 ls),oT (l++Zgq ls ds (ts.drop i)))
 | 0,i,l,hi,hb=>by
  rw [ZbR.l0.succ];simp only [ZbR.l0.step,List.length_map]
  rw [ZaL (by omega),List.drop_eq_nil_of_le (by omega)];simp [Zgq]
 | j+1,i,l,hi,hb=>by
  have hlt:i<ts.length:=by omega
  obtain ⟨hok,hin⟩:=hts ts[i] (List.getElem_mem hlt)
  have hdr:ts.drop i=ts[i]::ts.drop (i+1):=List.drop_eq_getElem_cons hlt
  have htl:=ZgS ls ds hl hd ts[i] hin
  have ih:=Zn2 ls ds hkl hkd hl hd ts hts hn j (i+1) (l++ZpP ls ds ts[i]) (by omega) (by simp;omega)
  have e:Zgq ls ds (ts.drop i)=ZpP ls ds ts[i]++Zgq ls ds (ts.drop (i+1)):=by rw [hdr];rfl
  rw [e,←List.append_assoc,←ih]
  rw [ZbR.l0.succ];simp only [ZbR.l0.step,List.length_map]
  rw [ZaK hlt,cond_true,Zab _ Zas,Int.toNat_natCast,Zlo ts i hlt,Zaf (n:=(i:Int)+1) (by omega) (by omega),show (i:Int)+1=((i+1:Nat):Int) by omega]
  cases hk:ts[i] with
  | lit c=>
   rw [hk] at hok hin
   have hc:=Zmg ls hkl hl c hin l (by omega)
   simp only [Tk.z]
   rw [show ((0:Int)==0)=true from rfl,cond_true,hc]
   simp only [Zae,ZpP]
  | far n k=>
   rw [hk] at hok hin
   obtain ⟨o1,o2,o3,o4⟩:=hok
   obtain ⟨i1,i2⟩:=hin
   obtain ⟨a1,a2,a3,a4,a5⟩:=Zfj n o1 o2
   obtain ⟨b1,b2,b3,b4,b5⟩:=ZfW k o3 o4
   have hlb:=Zjh (Zb1 ZaF n)
   have hbb:=ZjL (Zb1 ZaV k)
   have hs1:=Zcv ls (257+Zb1 ZaF n) i1 hl
   have hs2:=Zcv ds (Zb1 ZaV k) i2 hd
   have c1:=Zmg ls hkl hl _ i1 l (by omega)
   have c2:=Zem (n-ZaF.getD (Zb1 ZaF n) 0) (ZcB.getD (Zb1 ZaF n) 0) (by omega) (by omega) (l++Zi2 ls (257+Zb1 ZaF n)) (by simp only [List.length_append];omega)
   have c3:=Zmg ds hkd hd _ i2 ((l++Zi2 ls (257+Zb1 ZaF n))++ZbS (n-ZaF.getD (Zb1 ZaF n) 0) (ZcB.getD (Zb1 ZaF n) 0)) (by simp only [List.length_append,Zak];omega)
   have c4:=Zem (k-ZaV.getD (Zb1 ZaV k) 0) (Zdk.getD (Zb1 ZaV k) 0) (by omega) (by omega) (((l++Zi2 ls (257+Zb1 ZaF n))++ZbS (n-ZaF.getD (Zb1 ZaF n) 0) (ZcB.getD (Zb1 ZaF n) 0))++Zi2 ds (Zb1 ZaV k)) (by simp only [List.length_append,Zak];omega)
   simp only [Tk.z]
   rw [show ((n:Int)==0)=false by simp;omega,cond_false,Zfp,Zfq]
   simp only [Zae,a2,b2]
   rw [Zaf (n:=257+((Zb1 ZaF n:Nat):Int)) (by omega) (by omega),show (257:Int)+((Zb1 ZaF n:Nat):Int)=((257+Zb1 ZaF n:Nat):Int) by omega,c1]
   simp only [Zae]
   rw [Zab _ (Zax (by rw [Zag];exact a3)),Zab _ (Zax (by rw [Zag];exact a3)),Int.toNat_natCast,ZaN,ZaN,
    Zaf (n:=(n:Int)-((ZaF.getD (Zb1 ZaF n) 0:Nat):Int)) (by omega) (by omega),show (n:Int)-((ZaF.getD (Zb1 ZaF n) 0:Nat):Int)=((n-ZaF.getD (Zb1 ZaF n) 0:Nat):Int) by omega,c2]
   simp only [Zae]
   rw [c3]
   simp only [Zae]
   rw [Zab _ (Zax (by rw [Zag];exact b3)),Zab _ (Zax (by rw [Zag];exact b3)),Int.toNat_natCast,ZaN,ZaN,
    Zaf (n:=(k:Int)-((ZaV.getD (Zb1 ZaV k) 0:Nat):Int)) (by omega) (by omega),show (k:Int)-((ZaV.getD (Zb1 ZaV k) 0:Nat):Int)=((k-ZaV.getD (Zb1 ZaV k) 0:Nat):Int) by omega,c4]
   simp only [Zae,ZpP,List.append_assoc]
theorem Zgc (ls ds:List Nat) (hl:∀n∈ls,n≤15) (hd:∀n∈ds,n≤15):∀ts:List Tk,(∀t∈ts,t.Ok∧t.In ls ds)→(Zgq ls ds ts).length≤48*ts.length
 | [],_=>by simp [Zgq]
 | t::r,h=>by
  have:=Zgc ls ds hl hd r (fun t ht=>h t (List.mem_cons_of_mem _ ht))
  have ht:=ZgS ls ds hl hd t (h t (List.mem_cons_self ..)).2
  simp only [Zgq,List.flatMap_cons,List.length_append,List.length_cons] at this ⊢;omega
theorem Zn3 (ls ds:List Nat) (hkl:ZbB ls≤32768) (hkd:ZbB ds≤32768) (hl:∀n∈ls,n≤15) (hd:∀n∈ds,n≤15) (h1:ls.length≤300) (h2:ds.length≤300) (h256:256<ls.length) (ts:List Tk) (hts:∀t∈ts,t.Ok∧t.In ls ds) (hn:ts.length≤1000)
  (l:List Bool) (hb:l.length≤60000000):ZbR (ts.map Tk.z) (zs ls) (zs ds) (oL l:Int) ((l.length%8:Nat):Int) (oT l) =
   some ((oL (l++ZfB ls ds ts):Int),(((l++ZfB ls ds ts).length%8:Nat):Int),oT (l++ZfB ls ds ts)):=by
 unfold ZbR
 rw [ZeO ls (by omega),ZeO ds (by omega),Zfp,Zfq]
 simp only [Zae,List.length_map,ZiM,ZiN]
 rw [ZaC]
 have h:=Zn2 ls ds hkl hkd hl hd ts hts hn ts.length 0 l (by omega) (by omega)
 rw [show ((0:Nat):Int)=0 from rfl] at h
 rw [h,List.drop_zero]
 simp only [Zae]
 have hbl:=Zgc ls ds hl hd ts hts
 have hc:=Zmg ls hkl hl 256 h256 (l++Zgq ls ds ts) (by simp;omega)
 rw [show ((256:Nat):Int)=256 from rfl] at hc
 rw [hc,Zgt]
 simp only [Zae,List.append_assoc]
end Ev
end
section
namespace Ev
open Go
def Zhv (l:List Bool):Str:=Zbu (Zfm l)
theorem Zhu (l:List Bool):(Zhv l).length=(l.length+7)/8:=by simp [Zhv,Zbu,Zdq]
theorem ZuH (l:List Bool) (h:8≤l.length):Zfm l=((Zcy (l.take 8):Nat):Int)::Zfm (l.drop 8):=by
 unfold Zfm
 rw [show (l.length+7)/8=((l.drop 8).length+7)/8+1 by rw [List.length_drop];omega,List.range_succ_eq_map,List.map_cons,List.map_map]
 congr 1
 apply List.map_congr_left
 intro i _
 simp only [Function.comp,List.drop_drop]
 rw [show 8*(i+1)=8+8*i by omega]
theorem Zxq (l:List Bool) (h:l.length=8):ZbS (UInt8.ofNat ((Zcy l:Nat):Int).toNat).toNat 8=l:=by
 have hv:=ZlL l
 rw [h] at hv
 rw [Int.toNat_natCast,UInt8.toNat_ofNat_of_lt' (by omega)]
 have:=ZqF l
 rwa [h] at this
theorem Zhb:∀(k:Nat) (l:List Bool),l.length=8*k→Zdo (Zhv l)=l
 | 0,l,h=>by
  have:l=[]:=List.length_eq_zero_iff.1 (by omega)
  subst this;rfl
 | k+1,l,h=>by
  have e:Zhv l=UInt8.ofNat ((Zcy (l.take 8):Nat):Int).toNat::Zhv (l.drop 8):=by unfold Zhv;rw [ZuH l (by omega)];rfl
  rw [e,Zdo,Zxq _ (by rw [List.length_take];omega),Zhb k _ (by rw [List.length_drop];omega),List.take_append_drop]
theorem ZrR (l:List Bool):Zdo (Zhv l)=Zie l:=by
 have:Zhv l=Zhv (Zie l):=by unfold Zhv;rw [(Zjc l).2]
 rw [this]
 exact Zhb _ _ (Zf7 l)
def Zot:List Bool:=[true,false,false,false,false,false,false,false]
def ZfE (n:Nat):List Bool:=Zot++ZbS n 16++ZbS (65535-n) 16
def Zhf (s:Str):Str:=Zhv (ZfE s.length)++s
theorem Zse (s:Str) (hs:s.length≤300):ZdA s=some (Zhf s):=by
 have e1:ZeX 1 3 0 []=some (3,[1]):=by kernel_rfl
 have e2:ZjU 3 [1]=some (8,Zfm Zot):=by kernel_rfl
 have e3:=ZeF s.length 16 (by omega) (by omega) Zot (by simp [Zot])
 have e4:=ZeF (65535-s.length) 16 (by omega) (by omega) (Zot++ZbS s.length 16) (by simp [Zot,Zak])
 rw [show (Zot.length:Int)=8 from rfl,show ((16:Nat):Int)=16 from rfl] at e3
 rw [show ((16:Nat):Int)=16 from rfl] at e4
 unfold ZdA
 rw [decide_eq_false (by omega),cond_false,e1]
 simp only [Zaa]
 rw [e2]
 simp only [Zaa]
 rw [e3]
 simp only [Zaa]
 rw [Zaf (by omega) (by omega),show (65535:Int)-(s.length:Int)=((65535-s.length:Nat):Int) by omega,e4]
 simp only [Zaa]
 rw [Zad]
 ·rfl
 ·have:=Zhu (ZfE s.length)
  unfold Zhv ZfE at this
  rw [this];simp [Zot,Zak];omega
theorem Zu1 (s:Str) (hs:s.length≤300):Zeq s=some (Zhf s):=by
 have e1:Zeb 1 1 0 0 []=some (1,1,[]):=by kernel_rfl
 have e2:Zeb 0 2 1 1 []=some (1,3,[]):=by kernel_rfl
 have e3:ZdJ 1 3 []=some (0,0,oT Zot):=by kernel_rfl
 have e4:=Zem s.length 16 (by omega) (by omega) Zot (by simp [Zot])
 have e5:=Zem (65535-s.length) 16 (by omega) (by omega) (Zot++ZbS s.length 16) (by simp [Zot,Zak])
 rw [show (oL Zot:Int)=0 by kernel_rfl,show ((Zot.length%8:Nat):Int)=0 from rfl,show ((16:Nat):Int)=16 from rfl] at e4
 rw [show ((16:Nat):Int)=16 from rfl] at e5
 unfold Zeq
 rw [e1]
 simp only [Zaa]
 rw [e2]
 simp only [Zaa]
 rw [e3]
 simp only [Zaa]
 rw [e4]
 simp only [Zaa]
 rw [Zaf (by omega) (by omega),show (65535:Int)-(s.length:Int)=((65535-s.length:Nat):Int) by omega,e5]
 simp only [Zaa]
 have hl:(ZfE s.length).length=40:=by simp [ZfE,Zot,Zak]
 have hq:=Zhu (ZfE s.length)
 unfold Zhv at hq
 have hp:oT (ZfE s.length)=Zfm (ZfE s.length):=by
  have hf:Zie (ZfE s.length)=ZfE s.length:=by unfold Zie;rw [hl,show (8-40%8)%8=0 from rfl,List.replicate_zero,List.append_nil]
  rw [(Zjc _).1,hf]
 rw [show oT (Zot++ZbS s.length 16++ZbS (65535-s.length) 16)=Zfm (ZfE s.length) from hp,Zad (by rw [hq,hl];omega)]
 rfl
theorem Zo1 (s:Str):(Zhf s).length=5+s.length:=by
 simp only [Zhf,List.length_append,Zhu]
 simp [ZfE,Zot,Zak]
theorem ZoC:ZbB ZmQ=32768:=by kernel_rfl
theorem ZoD:ZbB Zny=32768:=by kernel_rfl
theorem ZpD:∀n∈ZmQ,n≤15:=by
 intro n hn
 simp only [ZmQ,List.mem_append,List.mem_replicate] at hn
 omega
theorem ZsS:∀n∈Zny,n≤15:=by
 intro n hn
 simp only [Zny,List.mem_replicate] at hn
 omega
theorem Zc4:ZmQ.length=288:=by kernel_rfl
theorem Zg8:Zny.length=32:=by kernel_rfl
theorem Zw6 (t:Tk) (h:t.Ok):t.In ZmQ Zny:=by
 cases t with
 | lit c=>show c<ZmQ.length;rw [Zc4];have:c<256:=h;omega
 | far l k=>
  obtain ⟨h1,h2,h3,h4⟩:=h
  have a:=(Zfj l h1 h2).2.2.1
  have b:=(ZfW k h3 h4).2.2.1
  show 257+Zb1 ZaF l<ZmQ.length∧Zb1 ZaV k<Zny.length
  rw [Zc4,Zg8];omega
theorem Zgg (s:Str):∀t∈Zii s,t.Ok:=Zlr s _ 0 (Nat.zero_le _)
theorem ZfA (s:Str):(Zii s).length≤s.length:=ZkP s _ 0
def Zw5 (s:Str):List Bool:=ZbS 1 1++ZbS 1 2++ZfB ZmQ Zny (Zii s)
def Zhk (s:Str):Str:=Zhv (Zw5 s)
theorem ZsR (s:Str) (hs:s.length≤300):ZdG s=some (Zhk s):=by
 have hl:=ZfA s
 have e1:=ZeF 1 1 (by omega) (by omega) [] (by simp)
 have e2:=ZeF 1 2 (by omega) (by omega) ([]++ZbS 1 1) (by simp [Zak])
 have e3:=ZnF ZmQ Zny (by rw [ZoC];omega) (by rw [ZoD];omega) ZpD ZsS (by rw [Zc4];omega) (by rw [Zg8];omega) (by rw [Zc4];omega) (Zii s) (fun t h=>⟨Zgg s t h,Zw6 t (Zgg s t h)⟩) (by omega) ([]++ZbS 1 1++ZbS 1 2) (by simp [Zak])
 rw [show ((1:Nat):Int)=1 from rfl,show (([]:List Bool).length:Int)=0 from rfl,show Zfm []=[] by kernel_rfl] at e1
 rw [show ((1:Nat):Int)=1 from rfl,show ((2:Nat):Int)=2 from rfl] at e2
 unfold ZdG
 rw [decide_eq_false (by omega),cond_false,e1]
 simp only [Zaa]
 rw [e2]
 simp only [Zaa]
 rw [Zlb,ZlR s hs]
 simp only [Zaa]
 rw [e3]
 rfl
theorem Zu3 (s:Str) (hs:s.length≤300):Zer s=some (Zhk s):=by
 have hl:=ZfA s
 have e1:=Zem 1 1 (by omega) (by omega) [] (by simp)
 have e2:=Zem 1 2 (by omega) (by omega) ([]++ZbS 1 1) (by simp [Zak])
 have e3:=Zn3 ZmQ Zny (by rw [ZoC];omega) (by rw [ZoD];omega) ZpD ZsS (by rw [Zc4];omega) (by rw [Zg8];omega) (by rw [Zc4];omega) (Zii s) (fun t h=>⟨Zgg s t h,Zw6 t (Zgg s t h)⟩) (by omega) ([]++ZbS 1 1++ZbS 1 2) (by simp [Zak])
 have hb:=Zgc ZmQ Zny ZpD ZsS (Zii s) (fun t h=>⟨Zgg s t h,Zw6 t (Zgg s t h)⟩)
 have h2:=Zcv ZmQ 256 (by rw [Zc4];omega) ZpD
 have e4:=ZqC ([]++ZbS 1 1++ZbS 1 2++ZfB ZmQ Zny (Zii s)) (by simp only [Zgt,List.length_append,Zak,List.length_nil];omega)
 rw [show ((1:Nat):Int)=1 from rfl,show (oL []:Int)=0 by kernel_rfl,show ((([]:List Bool).length%8:Nat):Int)=0 from rfl,show oT []=[] by kernel_rfl] at e1
 rw [show ((1:Nat):Int)=1 from rfl,show ((2:Nat):Int)=2 from rfl] at e2
 unfold Zer
 rw [e1]
 simp only [Zaa]
 rw [e2]
 simp only [Zaa]
 rw [Zoj,Zok,Zmv s hs]
 simp only [Zaa]
 rw [e3]
 simp only [Zaa]
 rw [e4]
 rfl
end Ev
end
section
namespace Ev
open Go
abbrev HT:=Nat×Nat×List Nat
def Zfi (out:List Nat) (S:List Nat):List Nat:=(List.range out.length).map fun i=>out.getD i 0+S.count i
theorem ZaE (out S:List Nat):(Zfi out S).length=out.length:=by simp [Zfi]
theorem ZcO (out S:List Nat) (i:Nat) (h:i<out.length):(Zfi out S).getD i 0=out.getD i 0+S.count i:=by
 rw [Zan (by rw [ZaE];exact h)]
 simp [Zfi]
theorem Zxs (out:List Nat) {S S':List Nat} (h:S.Perm S'):Zfi out S=Zfi out S':=by
 unfold Zfi
 exact List.map_congr_left fun i _=>by rw [h.count_eq]
theorem Zev (out:List Nat):Zfi out []=out:=by
 apply List.ext_getElem
 ·exact ZaE _ _
 ·intro i h1 h2
  have:=ZcO out [] i h2
  rw [Zan h1,Zan h2] at this
  simpa using this
theorem ZjJ (out S:List Nat) (s:Nat) (h:s<out.length):Zfi out (S++[s])=(Zfi out S).set s ((Zfi out S).getD s 0+1):=by
 apply List.ext_getElem
 ·simp [ZaE]
 ·intro i h1 h2
  rw [ZaE] at h1
  have e1:=ZcO out (S++[s]) i h1
  have e2:=ZcO out S i h1
  rw [Zan (by rw [ZaE];exact h1)] at e1 e2
  have e3:=ZcO out S s h
  rw [e1,List.getElem_set,e2,List.count_append]
  by_cases c:s=i
  ·subst c;rw [if_pos rfl,e3];simp;omega
  ·rw [if_neg c];simp [List.count_cons,c]
def Zj1 (out:List Nat) (S:List Nat):Nat:=(S.map fun s=>2^(15-out.getD s 0)).sum
def ZjC:Nat→Nat
 | 0=>0
 | 1=>1
 | n+2=>ZjC n+ZjC (n+1)
theorem ZzO (n:Nat):ZjC n≤ZjC (n+1):=by
 cases n with
 | zero=>decide
 | succ n=>show ZjC (n+1)≤ZjC n+ZjC (n+1);omega
theorem ZmR {a b:Nat} (h:a≤b):ZjC a≤ZjC b:=by
 induction h with
 | refl=>exact Nat.le_refl _
 | step _ ih=>exact Nat.le_trans ih (ZzO _)
theorem ZpF (n:Nat):1≤ZjC (n+1):=ZmR (a:=1) (by omega)
theorem ZjB {d c:Nat} (h:ZjC (d+2)≤c) (hc:c≤400):d≤12:=by
 rcases Nat.lt_or_ge 12 d with h13 | h13
 ·have:ZjC 15≤ZjC (d+2):=ZmR (by omega)
  have:ZjC 15=610:=by decide
  omega
 ·exact h13
structure TOk (out:List Nat) (T:Nat) (e:HT):Prop where
 fin:e.2.1∈e.2.2
 fle:∀s∈e.2.2,e.2.1≤s
 lt:∀s∈e.2.2,s<out.length
 kr:Zj1 out e.2.2=32768
 dep:∃d,(∀s∈e.2.2,out.getD s 0≤d)∧ZjC (d+2)≤e.1∧(1≤d→ZjC (d+1)≤T)
 top:T≤e.1
structure Zr3 (out:List Nat) (l:List HT) (T:Nat) (U:List Nat) (tot:Nat):Prop where
 all:∀e∈l,TOk out T e
 perm:(l.flatMap fun e=>e.2.2).Perm U
 sum:(l.map fun e=>e.1).sum=tot
theorem Ztc {α:Type} {l l':List α} (f:α→Nat) (h:l.Perm l'):(l.map f).sum=(l'.map f).sum:=by
 induction h with
 | nil=>rfl
 | cons x _ ih=>simp [ih]
 | swap x y l=>simp only [List.map_cons,List.sum_cons];omega
 | trans _ _ a b=>exact a.trans b
theorem Zw4 {α β:Type} {l l':List α} (f:α→List β) (h:l.Perm l'):(l.flatMap f).Perm (l'.flatMap f):=by
 induction h with
 | nil=>exact .refl _
 | cons x _ ih=>simpa using List.Perm.append_left _ ih
 | swap x y l=>
  simp only [List.flatMap_cons,←List.append_assoc]
  exact List.Perm.append_right _ List.perm_append_comm
 | trans _ _ a b=>exact a.trans b
theorem Zr3.of_perm {out:List Nat} {l l':List HT} {T:Nat} {U:List Nat} {tot:Nat} (h:Zr3 out l T U tot) (p:l.Perm l'):Zr3 out l' T U tot:=
 ⟨fun e he=>h.all e (p.mem_iff.2 he),(Zw4 _ p).symm.trans h.perm,(Ztc _ p).symm.trans h.sum⟩
theorem ZvN (out S:List Nat) (h:∀s∈S,s<out.length∧out.getD s 0≤14) (out':List Nat) (h':∀s∈S,out'.getD s 0=out.getD s 0+1):2*Zj1 out' S=Zj1 out S:=by
 induction S with
 | nil=>rfl
 | cons s S ih=>
  have:=ih (fun x hx=>h x (List.mem_cons_of_mem _ hx)) (fun x hx=>h' x (List.mem_cons_of_mem _ hx))
  have h1:=h s (List.mem_cons_self ..)
  have h2:=h' s (List.mem_cons_self ..)
  simp only [Zj1,List.map_cons,List.sum_cons] at this ⊢
  rw [h2,Nat.mul_add,this]
  congr 1
  rw [show 15-out.getD s 0=(15-(out.getD s 0+1))+1 by omega,Nat.pow_succ,Nat.mul_comm]
theorem ZvM (out out' S:List Nat) (h':∀s∈S,out'.getD s 0=out.getD s 0):Zj1 out' S=Zj1 out S:=by
 unfold Zj1
 congr 1
 exact List.map_congr_left fun s hs=>by rw [h' s hs]
theorem ZiH (out a b:List Nat):Zj1 out (a++b)=Zj1 out a+Zj1 out b:=by simp [Zj1]
def Zjp (a b:HT):HT:=(a.1+b.1,(if b.2.1<a.2.1 then b.2.1 else a.2.1),a.2.2++b.2.2)
theorem Zr3.step {out:List Nat} {a b:HT} {r:List HT} {T:Nat} {U:List Nat} {tot:Nat} (h:Zr3 out (a::b::r) T U tot) (hU:U.Nodup) (htot:tot≤400) (hab:a.1≤b.1) (hr:∀e∈r,b.1≤e.1) :
  Zr3 (Zfi out (a.2.2++b.2.2)) (Zjp a b::r) b.1 U tot:=by
 have ha:=h.all a (by simp)
 have hb:=h.all b (by simp)
 have hsum:=h.sum
 simp only [List.map_cons,List.sum_cons] at hsum
 have hp:=h.perm
 simp only [List.flatMap_cons] at hp
 have hnd:=(hp.nodup_iff).2 hU
 rw [←List.append_assoc] at hnd
 obtain ⟨da,a1,a2,a3⟩:=ha.dep
 obtain ⟨db,b1,b2,b3⟩:=hb.dep
 have hda:=ZjB a2 (by omega)
 have hdb:=ZjB b2 (by omega)
 have hlt:∀s∈a.2.2++b.2.2,s<out.length:=fun s hs=>(List.mem_append.1 hs).elim (ha.lt s) (hb.lt s)
 have hone:∀s∈a.2.2++b.2.2,(Zfi out (a.2.2++b.2.2)).getD s 0=out.getD s 0+1:=fun s hs=>by
  rw [ZcO out _ s (hlt s hs)]
  have:=(List.nodup_append.1 hnd).1
  rw [this.count,if_pos hs]
 have hother:∀e∈r,∀s∈e.2.2,(Zfi out (a.2.2++b.2.2)).getD s 0=out.getD s 0:=fun e he s hs=>by
  rw [ZcO out _ s ((h.all e (by simp [he])).lt s hs),List.count_eq_zero.2 (fun hm=>(List.nodup_append.1 hnd).2.2 s hm s (List.mem_flatMap.2 ⟨e,he,hs⟩) rfl)];rfl
 refine ⟨fun e he=>?_,?_,?_⟩
 ·rcases List.mem_cons.1 he with rfl | he
  ·have pa:=ZpF (da+1)
   have pb:=ZpF (db+1)
   refine ⟨?_,fun s hs=>?_,fun s hs=>by rw [ZaE];exact hlt s hs,?_,⟨max da db+1,fun s hs=>?_,?_,fun _=>?_⟩,Nat.le_add_left _ _⟩
   ·show (if b.2.1<a.2.1 then b.2.1 else a.2.1)∈a.2.2++b.2.2
    split
    ·exact List.mem_append_right _ hb.fin
    ·exact List.mem_append_left _ ha.fin
   ·show (if b.2.1<a.2.1 then b.2.1 else a.2.1)≤s
    rcases List.mem_append.1 hs with hs | hs
    ·have:=ha.fle s hs;split<;>omega
    ·have:=hb.fle s hs;split<;>omega
   ·have h2:=ZvN out (a.2.2++b.2.2) (fun s hs=>⟨hlt s hs,by
     rcases List.mem_append.1 hs with hs | hs
     ·have:=a1 s hs;omega
     ·have:=b1 s hs;omega⟩) _ hone
    rw [ZiH out,ha.kr,hb.kr] at h2
    show Zj1 _ (a.2.2++b.2.2)=32768
    omega
   ·rw [hone s hs]
    rcases List.mem_append.1 hs with hs | hs
    ·have:=a1 s hs;omega
    ·have:=b1 s hs;omega
   ·show ZjC (max da db+1+2)≤a.1+b.1
    have e:ZjC (max da db+1+2)=ZjC (max da db+1)+ZjC (max da db+2):=rfl
    rw [e]
    rcases Nat.le_total db da with hd | hd
    ·rw [Nat.max_eq_left hd]
     have:ZjC (da+1)≤b.1:=by
      rcases Nat.eq_zero_or_pos da with h0 | h0
      ·subst h0;exact Nat.le_trans (ZpF 0 |> fun _=>(by simpa [ZjC] using pb)) b2
      ·exact Nat.le_trans (a3 h0) hb.top
     omega
    ·rw [Nat.max_eq_right hd]
     have:ZjC (db+1)≤a.1:=by
      rcases Nat.eq_zero_or_pos db with h0 | h0
      ·subst h0;exact Nat.le_trans (by simpa [ZjC] using pa) a2
      ·exact Nat.le_trans (b3 h0) ha.top
     omega
   ·show ZjC (max da db+1+1)≤b.1
    rcases Nat.le_total db da with hd | hd
    ·rw [Nat.max_eq_left hd];exact Nat.le_trans a2 hab
    ·rw [Nat.max_eq_right hd];exact b2
  ·have he':=h.all e (by simp [he])
   obtain ⟨d,d1,d2,d3⟩:=he'.dep
   exact ⟨he'.fin,he'.fle,fun s hs=>by rw [ZaE];exact he'.lt s hs,(ZvM _ _ _ (hother e he)).trans he'.kr,
    ⟨d,fun s hs=>by rw [hother e he s hs];exact d1 s hs,d2,fun h1=>Nat.le_trans (d3 h1) hb.top⟩,hr e he⟩
 ·simp only [List.flatMap_cons,Zjp,List.append_assoc];exact hp
 ·simp only [List.map_cons,List.sum_cons,Zjp];omega
end Ev
end
section
namespace Ev
open Go
def ltH (x y:HT):Bool:=decide (x.1<y.1)||(decide (x.1=y.1)&&decide (x.2.1<y.2.1))
def HT.d:HT:=(0,0,[])
def ZhJ (l:List HT):Nat→Nat→Nat→Nat
 | 0,a,_=>a
 | f+1,a,i=>ZhJ l f (if ltH (l.getD i HT.d) (l.getD a HT.d) then i else a) (i+1)
def lst (l:List HT):Nat:=ZhJ l (l.length-1) 0 1
def less (l:List HT) (k:Nat):List HT:=l.take k++l.drop (k+1)
theorem ZiL (l:List HT):∀(f a i:Nat),i+f=l.length→a<l.length→(∀j,j<i→(l.getD a HT.d).1≤(l.getD j HT.d).1)→
  ZhJ l f a i<l.length∧∀j,j<l.length→(l.getD (ZhJ l f a i) HT.d).1≤(l.getD j HT.d).1
 | 0,a,i,h,ha,hj=>⟨ha,fun j hl=>hj j (by omega)⟩
 | f+1,a,i,h,ha,hj=>by
  rw [ZhJ]
  by_cases c:ltH (l.getD i HT.d) (l.getD a HT.d)=true
  ·rw [if_pos c]
   refine ZiL l f i (i+1) (by omega) (by omega) fun j hl=>?_
   have:(l.getD i HT.d).1≤(l.getD a HT.d).1:=by
    simp only [ltH,Bool.or_eq_true,Bool.and_eq_true,decide_eq_true_eq] at c;omega
   by_cases e:j=i
   ·subst e;exact Nat.le_refl _
   ·have:=hj j (by omega);omega
  ·rw [if_neg c]
   refine ZiL l f a (i+1) (by omega) ha fun j hl=>?_
   by_cases e:j=i
   ·subst e
    simp only [ltH,Bool.or_eq_true,Bool.and_eq_true,decide_eq_true_eq] at c;omega
   ·exact hj j (by omega)
theorem Zg2 (l:List HT) (h:0<l.length):lst l<l.length∧∀e∈l,(l.getD (lst l) HT.d).1≤e.1:=by
 have:=ZiL l (l.length-1) 0 1 (by omega) h (fun j hj=>by rw [show j=0 by omega];exact Nat.le_refl _)
 refine ⟨this.1,fun e he=>?_⟩
 obtain ⟨j,hj,rfl⟩:=List.getElem_of_mem he
 have h2:=this.2 j hj
 rw [Zan hj] at h2
 exact h2
theorem Zmn (l:List HT) (k:Nat) (h:k<l.length):l.Perm (l.getD k HT.d::less l k):=by
 have e:l=l.take k++(l.getD k HT.d::l.drop (k+1)):=by
  rw [Zan h,←List.drop_eq_getElem_cons h,List.take_append_drop]
 have p:=List.perm_middle (a:=l.getD k HT.d) (l₁:=l.take k) (l₂:=l.drop (k+1))
 have:l.Perm (l.take k++(l.getD k HT.d::l.drop (k+1))):=by rw [←e]
 exact this.trans p
theorem Zg4 (l:List HT) (k:Nat) (h:k<l.length):(less l k).length+1=l.length:=by
 have:=(Zmn l k h).length_eq
 simpa using this.symm
def Zhi (l:List HT):HT:=l.getD (lst l) HT.d
def ZgW (l:List HT):HT:=Zhi (less l (lst l))
def Zjb (l:List HT):List HT:=less (less l (lst l)) (lst (less l (lst l)))
def ZgK:Nat→List Nat→List HT→List Nat
 | 0,out,_=>out
 | n+1,out,l=>if 1<l.length then ZgK n (Zfi out ((Zhi l).2.2++(ZgW l).2.2)) (Zjb l++[Zjp (Zhi l) (ZgW l)]) else out
theorem Zx3 (l:List HT) (h:1<l.length):l.Perm (Zhi l::ZgW l::Zjb l)∧(Zhi l).1≤(ZgW l).1∧(∀e∈Zjb l,(ZgW l).1≤e.1)∧(Zjb l).length+2=l.length:=by
 obtain ⟨h1,h2⟩:=Zg2 l (by omega)
 have p1:=Zmn l (lst l) h1
 have n1:=Zg4 l (lst l) h1
 obtain ⟨h3,h4⟩:=Zg2 (less l (lst l)) (by omega)
 have p2:=Zmn (less l (lst l)) _ h3
 have n2:=Zg4 (less l (lst l)) _ h3
 have pp:l.Perm (Zhi l::ZgW l::Zjb l):=p1.trans (p2.cons _)
 refine ⟨pp,h2 _ (pp.mem_iff.2 (by simp)),fun e he=>h4 e (p2.mem_iff.2 (List.mem_cons_of_mem _ he)),?_⟩
 unfold Zjb;omega
theorem Zr3.next {out:List Nat} {l:List HT} {T:Nat} {U:List Nat} {tot:Nat} (h:Zr3 out l T U tot) (hU:U.Nodup) (htot:tot≤400) (hl:1<l.length) :
  Zr3 (Zfi out ((Zhi l).2.2++(ZgW l).2.2)) (Zjb l++[Zjp (Zhi l) (ZgW l)]) (ZgW l).1 U tot∧(Zjb l++[Zjp (Zhi l) (ZgW l)]).length+1=l.length:=by
 obtain ⟨p,h1,h2,h3⟩:=Zx3 l hl
 refine ⟨((h.of_perm p).step hU htot h1 h2).of_perm ?_,by simp;omega⟩
 exact (List.perm_append_comm (l₁:=[Zjp (Zhi l) (ZgW l)]) (l₂:=Zjb l))
theorem ZmD {U:List Nat} {tot:Nat} (hU:U.Nodup) (htot:tot≤400):∀(n:Nat) (out:List Nat) (l:List HT) (T:Nat),l.length=n+1→Zr3 out l T U tot→
  (ZgK n out l).length=out.length∧(∀i,i<out.length→i∉U→(ZgK n out l).getD i 0=out.getD i 0)∧∃e T',Zr3 (ZgK n out l) [e] T' U tot
 | 0,out,l,T,hl,h=>by
  obtain ⟨e,rfl⟩:=List.length_eq_one_iff.1 hl
  exact ⟨rfl,fun _ _ _=>rfl,e,T,h⟩
 | n+1,out,l,T,hl,h=>by
  obtain ⟨h1,h2⟩:=h.next hU htot (by omega)
  have ih:=ZmD hU htot n _ _ _ (by omega) h1
  rw [ZgK,if_pos (by omega)]
  refine ⟨ih.1.trans (ZaE _ _),fun i hi hn=>?_,ih.2.2⟩
  rw [ih.2.1 i (by rw [ZaE];exact hi) hn,ZcO _ _ _ hi,List.count_eq_zero.2,Nat.add_zero]
  intro hm
  apply hn
  obtain ⟨p,_⟩:=Zx3 l (by omega)
  refine h.perm.mem_iff.1 (List.mem_flatMap.2 ?_)
  rcases List.mem_append.1 hm with hm | hm
  ·exact ⟨_,p.mem_iff.2 (by simp),hm⟩
  ·exact ⟨_,p.mem_iff.2 (by simp),hm⟩
def Zcd (ns:List Nat):List Nat:=(List.range ns.length).filter fun i=>decide (0<ns.getD i 0)
theorem ZjV (n:Nat) (r:List Nat):Zcd (n::r)=(if 0<n then [0] else [])++(Zcd r).map (· + 1):=by
 unfold Zcd
 rw [List.length_cons,List.range_succ_eq_map,List.filter_cons,List.filter_map]
 by_cases h:0<n
 ·rw [if_pos (by simpa using h),if_pos h];rfl
 ·rw [if_neg (by simpa using h),if_neg h];rfl
theorem Zgr:∀ns,ZeY ns=(Zcd ns).length
 | []=>rfl
 | n::r=>by
  rw [ZjV,ZeY,Zgr r]
  by_cases h:0<n
  ·rw [if_pos h,if_pos h];simp;omega
  ·rw [if_neg h,if_neg h];simp
theorem ZiQ:∀ns,ZbB ns=Zj1 ns (Zcd ns)
 | []=>rfl
 | n::r=>by
  have e:Zj1 (n::r) ((Zcd r).map (· + 1))=Zj1 r (Zcd r):=by
   unfold Zj1;rw [List.map_map];rfl
  rw [ZjV,ZbB,ZiQ r,ZiH,e]
  by_cases h:0<n
  ·rw [if_pos h,if_pos h];simp [Zj1]
  ·rw [if_neg h,if_neg h];simp [Zj1]
theorem ZlU:∀ns:List Nat,((Zcd ns).map fun i=>ns.getD i 0).sum=ns.sum
 | []=>rfl
 | n::r=>by
  have e:(((Zcd r).map (· + 1)).map fun i=>(n::r).getD i 0)=(Zcd r).map fun i=>r.getD i 0:=by rw [List.map_map];rfl
  rw [ZjV,List.map_append,e,List.sum_append,ZlU r,List.sum_cons]
  by_cases h:0<n
  ·rw [if_pos h];simp
  ·rw [if_neg h];simp;omega
theorem ZcK (ns:List Nat) (i:Nat):i∈Zcd ns↔i<ns.length∧0<ns.getD i 0:=by
 simp [Zcd]
theorem ZiD (ns:List Nat):(Zcd ns).Nodup:=List.Pairwise.filter _ List.nodup_range
def Zf2 (cs:List Nat):List HT:=(Zcd cs).map fun i=>(cs.getD i 0,i,[i])
def ZdL (cs:List Nat):List Nat:=
 if (Zcd cs).length=1 then (List.replicate cs.length 0).set ((Zcd cs).getD 0 0) 1 else ZgK ((Zcd cs).length-1) (List.replicate cs.length 0) (Zf2 cs)
theorem Zdv (n i:Nat):(List.replicate n 0).getD i 0=0:=by
 by_cases h:i<n
 ·rw [Zan (by simpa using h)];simp
 ·simp [List.getD,Nat.le_of_not_lt h]
theorem Zkl (cs:List Nat):Zr3 (List.replicate cs.length 0) (Zf2 cs) 0 (Zcd cs) cs.sum:=by
 refine ⟨fun e he=>?_,?_,?_⟩
 ·obtain ⟨i,hi,rfl⟩:=List.mem_map.1 he
  obtain ⟨h1,h2⟩:=(ZcK cs i).1 hi
  refine ⟨by simp,fun s hs=>?_,fun s hs=>?_,?_,⟨0,fun s hs=>?_,?_,fun h=>?_⟩,Nat.zero_le _⟩
  ·have:s=i:=by simpa using hs
   subst this;exact Nat.le_refl _
  ·have:s=i:=by simpa using hs
   subst this;simpa using h1
  ·simp only [Zj1,List.map_cons,List.map_nil,List.sum_cons,List.sum_nil,Zdv];rfl
  ·rw [Zdv];exact Nat.le_refl _
  ·show 1≤cs.getD i 0;omega
  ·omega
 ·unfold Zf2
  rw [List.flatMap_map]
  have:∀l:List Nat,(l.flatMap fun i=>[i])=l:=fun l=>by induction l<;>simp_all
  rw [this]
 ·unfold Zf2
  rw [List.map_map]
  exact ZlU cs
structure LOk (cs out:List Nat) (d:Nat):Prop where
 len:out.length=cs.length
 pos:∀i,0<cs.getD i 0↔0<out.getD i 0
 le:∀n∈out,n≤d
 ok:ZbB out=32768∨ZeY out=1∧ZbB out=16384
theorem ZiE (cs out:List Nat) (h:out.length=cs.length) (hp:∀i,0<cs.getD i 0↔0<out.getD i 0):Zcd out=Zcd cs:=by
 unfold Zcd
 rw [h]
 exact List.filter_congr fun i _=>by simp only [decide_eq_decide];exact (hp i).symm
theorem Zte (out:List Nat):∀S:List Nat,S≠[]→0<Zj1 out S
 | [],h=>absurd rfl h
 | s::S,_=>by
  have:=Nat.two_pow_pos (15-out.getD s 0)
  simp only [Zj1,List.map_cons,List.sum_cons];omega
theorem ZlA (cs:List Nat) (h0:Zcd cs≠[]) (ht:cs.sum≤400):∃d,d≤12∧LOk cs (ZdL cs) d∧(d≤1∨ZjC (d+2)≤cs.sum):=by
 have hU:=ZiD cs
 by_cases h1:(Zcd cs).length=1
 ·obtain ⟨k,hk⟩:=List.length_eq_one_iff.1 h1
  have hm:k<cs.length∧0<cs.getD k 0:=(ZcK cs k).1 (by rw [hk];simp)
  have e:ZdL cs=(List.replicate cs.length 0).set k 1:=by unfold ZdL;rw [if_pos h1,hk];rfl
  have hlen:(ZdL cs).length=cs.length:=by rw [e];simp
  have hget:∀i,(ZdL cs).getD i 0=if i=k then 1 else 0:=fun i=>by
   rw [e]
   by_cases hi:i<cs.length
   ·rw [Zan (by simpa using hi),List.getElem_set]
    by_cases c:k=i
    ·rw [if_pos c,if_pos c.symm]
    ·rw [if_neg c,if_neg (fun x=>c x.symm)];simp
   ·rw [if_neg (by omega)]
    simp [List.getD,Nat.le_of_not_lt hi]
  have hpos:∀i,0<cs.getD i 0↔0<(ZdL cs).getD i 0:=fun i=>by
   rw [hget i]
   constructor
   ·intro h
    have hi:i<cs.length:=by
     rcases Nat.lt_or_ge i cs.length with h' | h'
     ·exact h'
     ·rw [show cs.getD i 0=0 by simp [List.getD,h']] at h;omega
    have:i∈Zcd cs:=(ZcK cs i).2 ⟨hi,h⟩
    rw [hk] at this
    rw [if_pos (by simpa using this)];omega
   ·intro h
    by_cases c:i=k
    ·rw [c];exact hm.2
    ·rw [if_neg c] at h;omega
  have hc:=ZiE cs (ZdL cs) hlen hpos
  refine ⟨1,by omega,⟨hlen,hpos,fun n hn=>?_,.inr ⟨by rw [Zgr,hc];exact h1,?_⟩⟩,.inl (Nat.le_refl _)⟩
  ·obtain ⟨j,hj,rfl⟩:=List.getElem_of_mem hn
   have:=hget j
   rw [Zan hj] at this
   rw [this];split<;>omega
  ·rw [ZiQ,hc,hk]
   simp only [Zj1,List.map_cons,List.map_nil,List.sum_cons,List.sum_nil,hget,if_true];rfl
 ·have hn:0<(Zcd cs).length:=List.length_pos_iff.2 h0
  have e:ZdL cs=ZgK ((Zcd cs).length-1) (List.replicate cs.length 0) (Zf2 cs):=by unfold ZdL;rw [if_neg h1]
  obtain ⟨l1,l2,t,T',hI⟩:=ZmD hU ht ((Zcd cs).length-1) (List.replicate cs.length 0) (Zf2 cs) 0 (by simp [Zf2];omega) (Zkl cs)
  rw [←e] at l1 l2 hI
  rw [List.length_replicate] at l1 l2
  have tok:=hI.all t (by simp)
  obtain ⟨d,d1,d2,d3⟩:=tok.dep
  have hts:t.1=cs.sum:=by simpa using hI.sum
  have hpp:t.2.2.Perm (Zcd cs):=by simpa using hI.perm
  have hkr:Zj1 (ZdL cs) (Zcd cs)=32768:=by
   have:=Ztc (fun s=>2^(15-(ZdL cs).getD s 0)) hpp
   unfold Zj1;rw [←this];exact tok.kr
  have hd:d≤12:=ZjB d2 (by omega)
  have hpos:∀i,0<cs.getD i 0↔0<(ZdL cs).getD i 0:=fun i=>by
   constructor
   ·intro h
    have hi:i<cs.length:=by
     rcases Nat.lt_or_ge i cs.length with h' | h'
     ·exact h'
     ·rw [show cs.getD i 0=0 by simp [List.getD,h']] at h;omega
    have hmem:i∈Zcd cs:=(ZcK cs i).2 ⟨hi,h⟩
    rcases Nat.eq_zero_or_pos ((ZdL cs).getD i 0) with hz | hz
    ·obtain ⟨a,b,hab⟩:=List.append_of_mem hmem
     rw [hab,ZiH] at hkr
     have ec:Zj1 (ZdL cs) (i::b)=32768+Zj1 (ZdL cs) b:=by simp only [Zj1,List.map_cons,List.sum_cons,hz]
     have ha:a=[]:=by
      rcases Classical.em (a=[]) with h' | h'
      ·exact h'
      ·have:=Zte (ZdL cs) a h';omega
     have hb:b=[]:=by
      rcases Classical.em (b=[]) with h' | h'
      ·exact h'
      ·have:=Zte (ZdL cs) b h';omega
     rw [hab,ha,hb] at h1
     exact absurd rfl h1
    ·exact hz
   ·intro h
    rcases Nat.lt_or_ge i cs.length with hi | hi
    ·rcases Classical.em (i∈Zcd cs) with hm | hm
     ·exact ((ZcK cs i).1 hm).2
     ·rw [l2 i hi hm,Zdv] at h;omega
    ·rw [show (ZdL cs).getD i 0=0 by simp [List.getD,l1,hi]] at h;omega
  have hc:=ZiE cs (ZdL cs) l1 hpos
  refine ⟨d,hd,⟨l1,hpos,fun n hn=>?_,.inl (by rw [ZiQ,hc];exact hkr)⟩,.inr (by rw [←hts];exact d2)⟩
  obtain ⟨j,hj,rfl⟩:=List.getElem_of_mem hn
  rcases Classical.em (j∈Zcd cs) with hm | hm
  ·have:=d1 j (hpp.mem_iff.2 hm)
   rwa [Zan hj] at this
  ·have:=l2 j (by omega) hm
   rw [Zan hj,Zdv] at this
   omega
end Ev
end

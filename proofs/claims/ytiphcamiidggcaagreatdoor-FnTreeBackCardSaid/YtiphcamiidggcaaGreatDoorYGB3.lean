/- Plain laws about what the functions compute. Conditions: as stated. -/
import Derived.Test.YtiphcamiidggcaaGreatDoorYGB2
set_option linter.unusedVariables false
set_option linter.unusedSimpArgs false
section
namespace Ev
open Go
def ZuQ:List Str:=[[97],[98,46,116,120,116],[100,105,114,47,97],[100,105,114,47,98],[120,45,121,95,122],[97,47,98,47,99,47,100],[114,101,97,100,109,101]]
def ZyF (k:Nat):Str:=[102]++[UInt8.ofNat (48+k)]
theorem ZuP:∀a∈ZuQ,∀k∈List.range 6,hit (ZyF k) a=false:=by decide
theorem Zw8:∀m∈List.range 6,∀k∈List.range 6,m<k→hit (ZyF k) (ZyF m)=false:=by decide
theorem ZwL {b:List Int} {p:Int} (h:Zlk b p) (hp:p≤900000000):Ret (Zcj b p) (Zi1 b p 1 fun s=>ZbN s=true∧s∈ZuQ):=by
 unfold Zcj
 refine .bind (Zir _ h (by omega) (by decide) (by decide)) ?_
 rintro ⟨x,b2,p2⟩ ⟨rfl,k1,k2,k3⟩
 dsimp only at k1 k2 k3 ⊢
 refine .pure ⟨rfl,k1,k2,?_⟩
 dsimp only
 simp only [List.mem_cons,List.not_mem_nil,or_false] at k3
 rcases k3 with rfl | rfl | rfl | rfl | rfl | rfl | rfl<;>exact ⟨by decide +kernel,by decide⟩
theorem Zu6 {b:List Int} {p:Int} (h:Zlk b p) (hp:p≤800000000):Ret (ZdE b p) (DrawnE b p 57 fun e=>ZcM e=true∧e.1∈ZuQ):=by
 unfold ZdE
 refine .bind (ZwL h (by omega)) ?_
 rintro ⟨nm,b1,p1⟩ ⟨rfl,g1,g2,g3⟩
 dsimp only at g1 g2 g3 ⊢
 refine .bind (Zkq (h.up g1) (by omega)) ?_
 rintro _ ⟨y,mo,d,hh,mi,s,p2,rfl,k1,k2,k3⟩
 dsimp only
 refine .bind (Zmz ((h.up g1).up k1) (by omega)) ?_
 rintro ⟨t,b3,p3⟩ ⟨rfl,l1,l2,l3⟩
 dsimp only at l1 l2 l3 ⊢
 refine .pure ⟨(nm,y,mo,d,hh,mi,s,t),p3,rfl,by omega,by omega,?_,g3.2⟩
 unfold ZcM
 dsimp only
 rw [g3.1,k3,decide_eq_true l3];rfl
theorem Zoq {b:List Int}:∀(j:Nat) (out:List Fil) (p:Int),Zlk b p→p≤1000000+57*(4-j)→j≤4→out.length+j≤4→(ZfT out=true∧∀e∈out,e.1∈ZuQ)→
  Ret (Zbn.l0 (j+1) ((j:Int),b,p,out)) fun r=>r.1=b∧p≤r.2.1∧r.2.1≤p+57*j∧r.2.2.length≤4∧ZfT r.2.2=true∧∀e∈r.2.2,e.1∈ZuQ
 | 0,out,p,h,hp,hj,hl,ho=>by
  rw [Zbn.l0.succ];simp only [Zbn.l0.step]
  rw [decide_eq_false (by omega)]
  exact .pure ⟨rfl,by dsimp only;omega,by dsimp only;omega,by dsimp only;omega,ho⟩
 | j+1,out,p,h,hp,hj,hl,ho=>by
  rw [Zbn.l0.succ];simp only [Zbn.l0.step]
  rw [decide_eq_true (by omega),cond_true]
  refine .bind (Zu6 h (by omega)) ?_
  rintro _ ⟨e,p1,rfl,g1,g2,g3⟩
  unfold entZ
  dsimp only
  have hnl:=ZcT (Zb5 g3.1).1
  rw [Zyq out (by omega) e (by omega)]
  simp only [Zaa]
  rw [Zaf (by omega) (by omega),show ((j+1:Nat):Int)-1=(j:Int) by omega]
  refine (Zoq j _ p1 (h.up g1) (by omega) (by omega) ?_ ?_).mono ?_
  ·split
   ·simp;omega
   ·omega
  ·split
   ·rename_i hc
    refine ⟨(ZyX ho.1 hc).1,fun x hx=>?_⟩
    rcases List.mem_append.1 hx with hx | hx
    ·exact ho.2 x hx
    ·have:x=e:=by simpa using hx
     subst this;exact g3.2
   ·exact ho
  ·rintro r ⟨q1,q2,q3,q4,q5⟩
   exact ⟨q1,by omega,by omega,q4,q5⟩
theorem ZxL {es:List Fil} {e:Fil} (h:ZfT es=true) (h6:es.length<6) (hf:ZcM e=true) (hn:∀x∈es,hit e.1 x.1=false):ZfT (es++[e])=true:=by
 obtain ⟨h1,h2,h3⟩:=(ZhX es).1 h
 rw [ZhX]
 refine ⟨fun x hx=>?_,by simp;omega,?_⟩
 ·rcases List.mem_append.1 hx with hx | hx
  ·exact h1 x hx
  ·have:x=e:=by simpa using hx
   subst this;exact hf
 ·rw [List.map_append]
  refine List.pairwise_append.2 ⟨h3,by simp,fun a ha b hb=>?_⟩
  have:b=e.1:=by simpa using hb
  subst this
  obtain ⟨x,hx,rfl⟩:=List.mem_map.1 ha
  exact hn x hx
theorem Zop {b:List Int}:∀(j k:Nat) (out:List Fil) (p:Int),k+j=6→Zlk b p→p≤2000000+6*(6-j)→out.length=k→ZfT out=true→(∀e∈out,e.1∈ZuQ∨∃m,m<k∧e.1=ZyF m)→
  Ret (Zbn.l1 (j+1) ((k:Int),b,p,out)) fun r=>r.1=b∧p≤r.2.1∧r.2.1≤p+6*j∧ZfT r.2.2=true
 | 0,k,out,p,hk,h,hp,hl,hz,ho=>by
  rw [Zbn.l1.succ];simp only [Zbn.l1.step]
  rw [decide_eq_false (by omega)]
  exact .pure ⟨rfl,by dsimp only;omega,by dsimp only;omega,hz⟩
 | j+1,k,out,p,hk,h,hp,hl,hz,ho=>by
  rw [Zbn.l1.succ];simp only [Zbn.l1.step]
  have hd:=(Zw7 k (by omega) (Zy0 (y:=1980) (mo:=1) (d:=1) (h:=0) (mi:=0) (s:=0) (by omega) (by omega) (by omega) (by omega) (by omega) (by omega) (by omega))).1
  rw [decide_eq_true (by omega),cond_true,hd]
  simp only [Zaa]
  rw [Zad (by simp)]
  refine .bind (Zkq h (by omega)) ?_
  rintro _ ⟨y,mo,d,hh,mi,s,p1,rfl,g1,g2,g3⟩
  dsimp only
  have hf:=(Zw7 k (by omega) g3).2
  rw [Zad (by simp;omega),Zaf (by omega) (by omega),show (k:Int)+1=((k+1:Nat):Int) by omega]
  refine (Zop j (k+1) _ p1 (by omega) (h.up g1) (by omega) (by simp;omega) ?_ ?_).mono ?_
  ·refine ZxL hz (by omega) hf.2 (fun x hx=>?_)
   rcases ho x hx with q | ⟨m,hm,q⟩
   ·exact ZuP x.1 q k (List.mem_range.2 (by omega))
   ·rw [q];exact Zw8 m (List.mem_range.2 (by omega)) k (List.mem_range.2 (by omega)) hm
  ·intro x hx
   rcases List.mem_append.1 hx with hx | hx
   ·rcases ho x hx with q | ⟨m,hm,q⟩
    ·exact .inl q
    ·exact .inr ⟨m,by omega,q⟩
   ·have:x=([102]++[UInt8.ofNat (48+k)],y,mo,d,hh,mi,s,[]):=by simpa using hx
    subst this;exact .inr ⟨k,by omega,rfl⟩
  ·rintro r ⟨q1,q2,q3,q4⟩
   exact ⟨q1,by omega,by omega,q4⟩
theorem ZwM {b:List Int} {p:Int} (h:Zlk b p) (hp:p≤1000):Ret (Zbn b p) (DrawnL b p 300 fun es=>ZfT es=true):=by
 unfold Zbn
 refine .bind (Zd0 5 h (by omega) (by omega) (by omega)) ?_
 rintro ⟨n,b1,p1⟩ ⟨rfl,g1,g2,g3⟩
 dsimp only at g1 g2 g3 ⊢
 obtain ⟨n,rfl⟩:=Int.eq_ofNat_of_zero_le g3.1
 rw [show ((n:Int)-0).toNat+1=n+1 by omega]
 refine .bind (Zoq n [] p1 (h.up g1) (by omega) (by omega) (by simp;omega) ⟨rfl,by simp⟩) ?_
 rintro ⟨b2,p2,out⟩ ⟨rfl,k1,k2,k3,k4,k5⟩
 dsimp only at k1 k2 k3 k4 k5 ⊢
 refine .bind (Zd0 24 ((h.up g1).up k1) (by omega) (by omega) (by omega)) ?_
 rintro ⟨x,b3,p3⟩ ⟨rfl,l1,l2,l3⟩
 dsimp only at l1 l2 l3 ⊢
 refine .cond (fun _=>?_) fun _=>.pure ⟨rfl,by dsimp only;omega,by dsimp only;omega,k4⟩
 rw [show (6-((out.length:Nat):Int)).toNat+1=(6-out.length)+1 by omega]
 refine .bind (Zop (6-out.length) out.length out p3 (by omega) (((h.up g1).up k1).up l1) (by omega) rfl k4 (fun e he=>.inl (k5 e he))) ?_
 rintro ⟨b4,p4,out2⟩ ⟨rfl,m1,m2,m3⟩
 dsimp only at m1 m2 m3 ⊢
 exact .pure ⟨rfl,by dsimp only;omega,by dsimp only;omega,m3⟩
theorem Zyx {b:List Int} {p:Int} (h:Zlk b p) (hp:p≤1000):Ret (Zf5 b p) (Zi1 b p 300 fun s=>∃es,ZfT es=true∧s=Zr6 es):=by
 unfold Zf5
 refine .bind (ZwM h hp) ?_
 rintro ⟨b1,p1,es⟩ ⟨rfl,g1,g2,g3⟩
 dsimp only at g1 g2 g3 ⊢
 rw [ZtC es (by have:=(Zdz g3).2;omega) (Zdz g3).1]
 simp only [Zaa]
 exact .pure ⟨rfl,g1,g2,es,g3,rfl⟩
end Ev
end
section
namespace Ev
open Go
theorem ZyA (a:Str):hit a a=true:=by unfold hit;rw [beq_self_eq_true];rfl
end Ev
end
section
namespace Ev
open Go
theorem ZpW {s:Str} {es:List Fil} (hs:s.length≤1048576) (h:ZdR s=some es):Zck s=some (true,es):=by
 rw [ZpY s hs,h];rfl
theorem Zgs {es:List Fil} (h:ZfT es=true):es.Pairwise fun a b=>a.1≠b.1:=by
 have:=((ZhX es).1 h).2.2
 unfold ZxD at this
 rw [List.pairwise_map] at this
 exact this.imp fun {a b} q r=>by rw [r,ZyA] at q;cases q
end Ev
end
section
namespace Ev
open Go
def ahead (p:Str) (xs:List (Str×Str)):List (Str×Str):=xs.takeWhile fun q=>Op.bytesLess q.1 p
def ZgO (p:Str) (xs:List (Str×Str)):List (Str×Str):=xs.dropWhile fun q=>Op.bytesLess q.1 p
def Zsr (xs:List (Str×Str)) (p x:Str):List (Str×Str):=
 ahead p xs++(p,x)::(match ZgO p xs with
  | []=>[]
  | q::r=>if q.1=p then r else q::r)
theorem ZoY {α:Type} (f:α→Bool) (xs:List α):(xs.takeWhile f).length≤xs.length:=by
 induction xs with
 | nil=>simp
 | cons x xs ih=>rw [List.takeWhile_cons];split<;>simp;exact ih
theorem Znn {α:Type} (f:α→Bool) (xs:List α):xs.take (xs.takeWhile f).length=xs.takeWhile f:=by
 induction xs with
 | nil=>simp
 | cons x xs ih=>rw [List.takeWhile_cons];split<;>simp [*]
theorem Znz {α:Type} (f:α→Bool) (xs:List α):xs.drop (xs.takeWhile f).length=xs.dropWhile f:=by
 induction xs with
 | nil=>simp
 | cons x xs ih=>rw [List.takeWhile_cons,List.dropWhile_cons];split<;>simp [*]
theorem ZwO (xs:List (Str×Str)) (p x:Str) (hn:xs.length≤1048576):∀n (t:List (Str×Str)×Int×Str×Str),(t.1=xs∧0≤t.2.1∧t.2.1≤xs.length∧t.2.2=(p,x))→(xs.length-t.2.1.toNat)<n→
  ZdF.l0 n t=some (xs,t.2.1+((xs.drop t.2.1.toNat).takeWhile fun q=>Op.bytesLess q.1 p).length,p,x):=by
 refine Zwu _ _ _ ?_
 rintro again ⟨t,k,o⟩ ⟨h1,h2,h3,h4⟩ ih
 dsimp only at h1 h2 h3 h4
 subst h1 h4
 obtain ⟨k,rfl⟩:=Int.eq_ofNat_of_zero_le h2
 simp only [ZdF.l0.step]
 by_cases hk:k<t.length
 ·have hd:t.drop k=t[k]::t.drop (k+1):=List.drop_eq_getElem_cons hk
  ((try simp (disch:=omega) only [Zam,Zal,Zaj,Zad,Zaq,ZaI,Zaf,Zaw,Zav,Zae,Option.map_some,cond_true,cond_false,Int.sub_zero,Int.toNat_natCast,Zan hk]);(try simp only [Za9,Zc7,Zc9,Zar,Zbj,if_true,if_false,Zan hk]))
  rw [if_pos (by omega)]
  ((try simp (disch:=omega) only [Zam,Zal,Zaj,Zad,Zaq,ZaI,Zaf,Zaw,Zav,Zae,Option.map_some,cond_true,cond_false,Int.sub_zero,Int.toNat_natCast]);(try simp only [Za9,Zc7,Zc9,Zar,Zbj,if_true,if_false]))
  rw [hd,List.takeWhile_cons]
  cases hb:Op.bytesLess t[k].1 p with
  | false=>simp
  | true=>
   simp only [cond_true]
   rw [ih _ ⟨rfl,by dsimp only;omega,by dsimp only;omega,rfl⟩ (by dsimp only;omega)]
   dsimp only
   rw [show ((k:Int)+1).toNat=k+1 by omega]
   simp only [List.length_cons,if_true]
   congr 3;omega
 ·((try simp (disch:=omega) only [Zam,Zal,Zaj,Zad,Zaq,ZaI,Zaf,Zaw,Zav,Zae,Option.map_some,cond_true,cond_false,Int.sub_zero,Int.toNat_natCast]);(try simp only [Za9,Zc7,Zc9,Zar,Zbj,if_true,if_false]))
  rw [if_neg (by omega)]
  rw [List.drop_eq_nil_of_le (by omega)]
  simp
theorem Zrf (xs:List (Str×Str)) (p x:Str) (hn:xs.length≤1048576):ZdF xs p x=some (Zsr xs p x):=by
 unfold ZdF
 rw [ZwO xs p x hn _ _ ⟨rfl,by dsimp only;omega,by dsimp only;omega,rfl⟩ (by dsimp only;omega)]
 have hl:=ZoY (fun q:Str×Str=>Op.bytesLess q.1 p) xs
 have ht:=Znn (fun q:Str×Str=>Op.bytesLess q.1 p) xs
 have hd:=Znz (fun q:Str×Str=>Op.bytesLess q.1 p) xs
 simp only [Zae,Int.toNat_zero,List.drop_zero,Int.zero_add]
 generalize hk:(xs.takeWhile fun q=>Op.bytesLess q.1 p).length=k at hl ht hd
 unfold Zsr ahead ZgO
 by_cases h:k<xs.length
 ·rw [List.drop_eq_getElem_cons h] at hd
  ((try simp (disch:=omega) only [Zam,Zal,Zaj,Zad,Zaq,ZaI,Zaf,Zaw,Zav,Zae,Option.map_some,cond_true,cond_false,Int.sub_zero,Int.toNat_natCast,Zan h,List.length_nil,List.length_append,List.length_take,List.length_cons,List.length_drop]);(try simp only [Za9,Zc7,Zc9,Zar,Zbj,if_true,if_false,Zan h,List.length_nil,List.length_append,List.length_take,List.length_cons,List.length_drop]))
  rw [if_pos (by omega)]
  rw [ht,←hd]
  by_cases he:xs[k].1=p
  ·have:(xs[k].1==p)=true:=by simp [he]
   ((try simp (disch:=omega) only [Zam,Zal,Zaj,Zad,Zaq,ZaI,Zaf,Zaw,Zav,Zae,Option.map_some,cond_true,cond_false,Int.sub_zero,Int.toNat_natCast,this]);(try simp only [Za9,Zc7,Zc9,Zar,Zbj,if_true,if_false,this]))
   rw [if_pos he,show ((k:Int)+1).toNat=k+1 by omega]
   ((try simp (disch:=omega) only [Zam,Zal,Zaj,Zad,Zaq,ZaI,Zaf,Zaw,Zav,Zae,Option.map_some,cond_true,cond_false,Int.sub_zero,Int.toNat_natCast]);(try simp only [Za9,Zc7,Zc9,Zar,Zbj,if_true,if_false]))
   simp
  ·have:(xs[k].1==p)=false:=by simp [he]
   ((try simp (disch:=omega) only [Zam,Zal,Zaj,Zad,Zaq,ZaI,Zaf,Zaw,Zav,Zae,Option.map_some,cond_true,cond_false,Int.sub_zero,Int.toNat_natCast,this]);(try simp only [Za9,Zc7,Zc9,Zar,Zbj,if_true,if_false,this]))
   rw [if_neg he,List.drop_eq_getElem_cons h]
   simp
 ·rw [List.drop_eq_nil_of_le (by omega)] at hd
  ((try simp (disch:=omega) only [Zam,Zal,Zaj,Zad,Zaq,ZaI,Zaf,Zaw,Zav,Zae,Option.map_some,cond_true,cond_false,Int.sub_zero,Int.toNat_natCast,List.length_nil,List.length_append,List.length_take,List.length_cons,List.length_drop]);(try simp only [Za9,Zc7,Zc9,Zar,Zbj,if_true,if_false,List.length_nil,List.length_append,List.length_take,List.length_cons,List.length_drop]))
  rw [if_neg (by omega)]
  ((try simp (disch:=omega) only [Zam,Zal,Zaj,Zad,Zaq,ZaI,Zaf,Zaw,Zav,Zae,Option.map_some,cond_true,cond_false,Int.sub_zero,Int.toNat_natCast]);(try simp only [Za9,Zc7,Zc9,Zar,Zbj,if_true,if_false]))
  rw [ht,←hd,List.drop_eq_nil_of_le (by omega)]
  simp
theorem Ztn (xs:List (Str×Str)) (p x:Str):(Zsr xs p x).length≤xs.length+1:=by
 have h:=congrArg List.length (List.takeWhile_append_dropWhile (p:=fun q:Str×Str=>Op.bytesLess q.1 p) (l:=xs))
 unfold Zsr ahead ZgO
 rw [List.length_append] at h
 rw [List.length_append,List.length_cons]
 generalize hd:xs.dropWhile (fun q=>Op.bytesLess q.1 p)=d at h ⊢
 cases d with
 | nil=>simp;omega
 | cons q r=>
  dsimp only
  by_cases he:q.1=p
  ·rw [if_pos he];rw [List.length_cons] at h;omega
  ·rw [if_neg he];omega
theorem Ztm {xs:List (Str×Str)} {p x:Str} {y:Str×Str} (h:y∈Zsr xs p x):y=(p,x)∨y∈xs:=by
 have e:=List.takeWhile_append_dropWhile (p:=fun q:Str×Str=>Op.bytesLess q.1 p) (l:=xs)
 unfold Zsr ahead ZgO at h
 rw [List.mem_append,List.mem_cons] at h
 rcases h with h | h | h
 ·exact .inr (by rw [←e,List.mem_append];exact .inl h)
 ·exact .inl h
 ·refine .inr ?_
  rw [←e,List.mem_append]
  refine .inr ?_
  generalize xs.dropWhile (fun q=>Op.bytesLess q.1 p)=d at h ⊢
  cases d with
  | nil=>simp at h
  | cons q r=>
   dsimp only at h
   by_cases he:q.1=p
   ·rw [if_pos he] at h;exact List.mem_cons_of_mem _ h
   ·rw [if_neg he] at h;exact h
def Zlm (n:Nat) (xs:List (Str×Str)):Prop:=xs.length≤n∧∀y,y∈xs→y.1∈Zph∧y.2.length≤301
theorem Zlm.small {n:Nat} {xs:List (Str×Str)} (h:Zlm n xs):ZdQ xs:=fun x hx=>by have h1:=h.2 x hx;have:=ZqH _ h1.1;omega
theorem Zlm.put {n:Nat} {xs:List (Str×Str)} {p x:Str} (h:Zlm n xs) (hp:p∈Zph) (hx:x.length≤301):Zlm (n+1) (Zsr xs p x):=by
 refine ⟨by have:=Ztn xs p x;have:=h.1;omega,fun y hy=>?_⟩
 rcases Ztm hy with rfl | hy
 ·exact ⟨hp,hx⟩
 ·exact h.2 y hy
theorem ZsF {b:List Int} {p:Int} (h:Zlk b p) (hp:p≤100000000):Ret (Zdh b p) fun r=>r.1=b∧p≤r.2.1∧r.2.1≤p+300∧Zlm 5 r.2.2:=by
 unfold Zdh
 refine .bind (Zd0 5 h (by omega) (by omega) (by omega)) ?_
 rintro ⟨r,b1,p1⟩ ⟨rfl,g1,g2,g3⟩
 dsimp only at g1 g2 g3 ⊢
 refine .bind (P:=fun (o:List Int×Int×List (Str×Str))=>o.1=b1∧p1≤o.2.1∧o.2.1≤p1+270∧Zlm 5 o.2.2) ?_ ?_
 ·unfold Zdh.l0
  refine Ret.loop (fun (t:Int×List Int×Int×List (Str×Str))=>t.2.1=b1∧0≤t.1∧t.1≤5∧p1≤t.2.2.1∧t.2.2.1+54*t.1≤p1+270∧Zlm (5-t.1.toNat) t.2.2.2) (fun t=>t.1.toNat) (fun _ (o:List Int×Int×List (Str×Str))=>o.1=b1∧p1≤o.2.1∧o.2.1≤p1+270∧Zlm 5 o.2.2) ?_ _ _ ?_ ?_
  ·rintro again ⟨n,b3,p3,out⟩ ⟨rfl,q1,q2,q3,q4,q5⟩ ih
   dsimp only at q1 q2 q3 q4 q5
   simp only [Zdh.l0.step]
   ((try simp (disch:=omega) only [Zam,Zal,Zaj,Zad,Zaq,ZaI,Zaf,Zaw,Zav,Zae,Option.map_some,cond_true,cond_false,Int.sub_zero,Int.toNat_natCast]);(try simp only [Za9,Zc7,Zc9,Zar,Zbj,if_true,if_false]))
   refine .ite (fun hn=>?_) fun hn=>.pure ⟨rfl,by dsimp only;omega,by dsimp only;omega,⟨by have:=q5.1;dsimp only;omega,q5.2⟩⟩
   refine .bind (Zu5 ((h.up g1).up q3) (by omega)) ?_
   rintro ⟨y,b4,p4⟩ ⟨rfl,l1,l2,l3⟩
   dsimp only at l1 l2 l3 ⊢
   refine .bind (Zmz (((h.up g1).up q3).up l1) (by omega)) ?_
   rintro ⟨z,b5,p5⟩ ⟨rfl,m1,m2,m3⟩
   dsimp only at m1 m2 m3 ⊢
   rw [Zrf _ _ _ (by have:=q5.1;omega)]
   have hb:=q5.put (p:=y) (x:=z) l3 (by omega)
   simp only [Zae]
   rw [ZgT _ (by have:=hb.1;omega) hb.small]
   simp only [Zae]
   ((try simp (disch:=omega) only [Zam,Zal,Zaj,Zad,Zaq,ZaI,Zaf,Zaw,Zav,Zae,Option.map_some,cond_true,cond_false,Int.sub_zero,Int.toNat_natCast]);(try simp only [Za9,Zc7,Zc9,Zar,Zbj,if_true,if_false]))
   refine .cond (fun _=>?_) fun _=>?_
   ·exact ih _ ⟨rfl,by dsimp only;omega,by dsimp only;omega,by dsimp only;omega,by dsimp only;omega,⟨by have:=hb.1;dsimp only;omega,hb.2⟩⟩ (by dsimp only;omega)
   ·exact ih _ ⟨rfl,by dsimp only;omega,by dsimp only;omega,by dsimp only;omega,by dsimp only;omega,⟨by have:=q5.1;dsimp only;omega,q5.2⟩⟩ (by dsimp only;omega)
  ·exact ⟨rfl,by dsimp only;omega,by dsimp only;omega,by dsimp only;omega,by dsimp only;omega,⟨by simp,by simp⟩⟩
  ·dsimp only;omega
 ·rintro ⟨b3,p3,out⟩ ⟨rfl,m1,m2,m3⟩
  dsimp only at m1 m2 m3 ⊢
  exact .pure ⟨rfl,by dsimp only;omega,by dsimp only;omega,m3⟩
theorem Ziu {b:List Int} {p:Int} (h:Zlk b p) (hp:p≤100000000):Ret (ZbK b p) fun r=>r.1=b∧p≤r.2.1∧r.2.1≤p+400∧Zlm 6 r.2.2:=by
 unfold ZbK
 refine .bind (ZsF h hp) ?_
 rintro ⟨b1,p1,xs⟩ ⟨rfl,g1,g2,g3⟩
 dsimp only at g1 g2 g3 ⊢
 have hl:=g3.1
 ((try simp (disch:=omega) only [Zam,Zal,Zaj,Zad,Zaq,ZaI,Zaf,Zaw,Zav,Zae,Option.map_some,cond_true,cond_false,Int.sub_zero,Int.toNat_natCast,List.length_nil,List.nil_append,Nat.zero_add]);(try simp only [Za9,Zc7,Zc9,Zar,Zbj,if_true,if_false,List.length_nil,List.nil_append,Nat.zero_add]))
 refine .bind (Zd0 8 (h.up g1) (by omega) (by omega) (by omega)) ?_
 rintro ⟨r,b2,p2⟩ ⟨rfl,k1,k2,k3⟩
 dsimp only at k1 k2 k3 ⊢
 ((try simp (disch:=omega) only [Zam,Zal,Zaj,Zad,Zaq,ZaI,Zaf,Zaw,Zav,Zae,Option.map_some,cond_true,cond_false,Int.sub_zero,Int.toNat_natCast]);(try simp only [Za9,Zc7,Zc9,Zar,Zbj,if_true,if_false]))
 refine .ite (fun _=>?_) fun _=>.pure ⟨rfl,by dsimp only;omega,by dsimp only;omega,by dsimp only;omega,g3.2⟩
 refine .bind (Zpo ((h.up g1).up k1) (by omega)) ?_
 rintro ⟨y,b4,p4⟩ ⟨rfl,l1,l2,l3⟩
 dsimp only at l1 l2 l3 ⊢
 refine .bind (Zrd (((h.up g1).up k1).up l1) (by omega)) ?_
 rintro ⟨z,b5,p5⟩ ⟨rfl,m1,m2,m3⟩
 dsimp only at m1 m2 m3 ⊢
 ((try simp (disch:=omega) only [Zam,Zal,Zaj,Zad,Zaq,ZaI,Zaf,Zaw,Zav,Zae,Option.map_some,cond_true,cond_false,Int.sub_zero,Int.toNat_natCast,List.length_cons,List.length_nil]);(try simp only [Za9,Zc7,Zc9,Zar,Zbj,if_true,if_false,List.length_cons,List.length_nil]))
 refine .pure ⟨rfl,by dsimp only;omega,by dsimp only;omega,by simp only [List.length_append,List.length_cons,List.length_nil];omega,fun q hq=>?_⟩
 simp only [List.mem_append,List.mem_cons,List.not_mem_nil,or_false] at hq
 rcases hq with hq | rfl
 ·exact g3.2 q hq
 ·exact ⟨l3,by dsimp only;omega⟩
def apartF (a b:Str×Str):Prop:=Op.bytesLess a.1 b.1=true∧ZdX a.1 b.1=false∧ZdX b.1 a.1=false
def ZxB (xs:List (Str×Str)):Prop:=(∀x,x∈xs→ZbN x.1=true∧x.2.length≤300)∧xs.Pairwise apartF∧xs.length≤8
theorem ZxO (xs:List (Str×Str)):((List.range xs.length).all (Zno xs)&&decide (xs.length≤8))=true↔ZxB xs:=by
 have gi:∀i (h:i<xs.length),xs.getD i ([],[])=xs[i]:=fun i h=>by simp [List.getD,h]
 constructor
 ·intro H
  simp only [Bool.and_eq_true,List.all_eq_true,List.mem_range,Zno,decide_eq_true_eq] at H
  obtain ⟨H,h8⟩:=H
  have hgood:(List.range xs.length).all (Ze9 xs)=true:=by
   simp only [List.all_eq_true,List.mem_range];exact fun i hi=>(H i hi).1
  refine ⟨fun x hx=>?_,?_,h8⟩
  ·obtain ⟨i,hi,rfl⟩:=List.getElem_of_mem hx
   have h:=(H i hi).1
   unfold Ze9 at h
   simp only [Bool.and_eq_true,decide_eq_true_eq,gi i hi] at h
   exact ⟨h.1,by have:=h.2.1;omega⟩
  ·rw [List.pairwise_iff_getElem]
   intro i j hi hj hij
   have h1:=ZvY xs hgood j i hij hj
   rw [gi i hi,gi j hj] at h1
   refine ⟨h1,?_,?_⟩
   ·have h:=(H i hi).2 xs[j] (List.getElem_mem hj)
    rw [gi i hi] at h;simpa using h
   ·have h:=(H j hj).2 xs[i] (List.getElem_mem hi)
    rw [gi j hj] at h;simpa using h
 ·rintro ⟨h1,h2,h8⟩
  rw [List.pairwise_iff_getElem] at h2
  simp only [Bool.and_eq_true,List.all_eq_true,List.mem_range,Zno,decide_eq_true_eq]
  refine ⟨fun i hi=>⟨?_,fun q hq=>?_⟩,h8⟩
  ·unfold Ze9
   have hx:=h1 xs[i] (List.getElem_mem hi)
   simp only [Bool.and_eq_true,Bool.or_eq_true,decide_eq_true_eq,gi i hi]
   refine ⟨hx.1,by have:=hx.2;omega,?_⟩
   by_cases h0:i=0
   ·left;omega
   ·right
    rw [gi (i-1) (by omega)]
    exact (h2 (i-1) i (by omega) hi (by omega)).1
  ·obtain ⟨j,hj,rfl⟩:=List.getElem_of_mem hq
   rw [gi i hi]
   rcases Nat.lt_trichotomy i j with h | h | h
   ·rw [(h2 i j hi hj h).2.1];rfl
   ·subst h;rw [ZjX];rfl
   ·rw [(h2 j i hj hi h).2.2];rfl
noncomputable def ZxP (xs:List (Str×Str)):Bool:=(List.range xs.length).all (Zno xs)&&decide (xs.length≤8)
theorem Zqd (xs:List (Str×Str)) (hn:xs.length≤1048576) (hsm:ZdQ xs):Zao xs=some (ZxP xs):=ZgT xs hn hsm
theorem Zrk (xs:List (Str×Str)) (hn:xs.length≤1048576) (hsm:ZdQ xs):Zau xs=some (ZxP xs):=by rw [Zp4 xs hn hsm,Zqd xs hn hsm]
theorem Zp6 (xs:List (Str×Str)):ZxP xs=true↔ZxB xs:=ZxO xs
theorem ZxB.sub {xs ys:List (Str×Str)} (h:ZxB xs) (s:ys.Sublist xs):ZxB ys:=
 ⟨fun x hx=>h.1 x (s.subset hx),h.2.1.sublist s,Nat.le_trans s.length_le h.2.2⟩
end Ev
end
section
namespace Ev
open Go
def Zx2 (out:List (Str×Str)) (p x:Str):List (Str×Str):=match out.findIdx? (fun f=>f.1==p) with
 | some i=>out.set i (p,x)
 | none=>out++[(p,x)]
theorem Zzu (out:List (Str×Str)) (p x:Str) (h:Zvy out):Zvy (Zx2 out p x)∧(∀y,y∈Zx2 out p x↔y=(p,x)∨(y∈out∧y.1≠p))∧(Zx2 out p x).length≤out.length+1:=by
 unfold Zx2
 cases hf:out.findIdx? (fun f=>f.1==p) with
 | none=>
  have hn:∀y∈out,y.1≠p:=fun y hy=>by
   have:=List.findIdx?_eq_none_iff.1 hf y hy
   simpa using this
  refine ⟨List.pairwise_append.2 ⟨h,List.pairwise_singleton ..,fun a ha b hb=>?_⟩,fun y=>?_,by simp⟩
  ·have:b=(p,x):=by simpa using hb
   subst this;exact hn a ha
  ·rw [List.mem_append,List.mem_singleton]
   constructor
   ·rintro (q | q)
    ·exact .inr ⟨q,hn y q⟩
    ·exact .inl q
   ·rintro (q | q)
    ·exact .inr q
    ·exact .inl q.1
 | some i=>
  obtain ⟨hi,hp,_⟩:=List.findIdx?_eq_some_iff_getElem.1 hf
  have hp:(out[i]).1=p:=by simpa using hp
  have hu:=List.pairwise_iff_getElem.1 h
  have hother:∀j (hj:j<out.length),j≠i→(out[j]).1≠p:=fun j hj hji=>by
   rcases Nat.lt_or_gt_of_ne hji with q | q
   ·have:=hu j i hj hi q;rw [hp] at this;exact this
   ·have:=hu i j hi hj q;rw [hp] at this;exact fun e=>this e.symm
  refine ⟨?_,fun y=>?_,by simp⟩
  ·unfold Zvy
   rw [List.pairwise_iff_getElem]
   intro a b ha hb hab
   rw [List.length_set] at ha hb
   rw [List.getElem_set,List.getElem_set]
   split
   ·split
    ·omega
    ·rename_i e1 e2;exact fun q=>hother b hb (fun q'=>e2 q'.symm) q.symm
   ·split
    ·rename_i e1 e2;exact hother a ha (fun q'=>e1 q'.symm)
    ·exact hu a b ha hb hab
  ·dsimp only
   rw [List.mem_iff_getElem]
   constructor
   ·rintro ⟨j,hj,rfl⟩
    rw [List.length_set] at hj
    rw [List.getElem_set]
    split
    ·exact .inl rfl
    ·rename_i e;exact .inr ⟨List.getElem_mem hj,hother j hj (fun q=>e q.symm)⟩
   ·rintro (rfl | ⟨hy,hne⟩)
    ·exact ⟨i,by rw [List.length_set];exact hi,by rw [List.getElem_set,if_pos rfl]⟩
    ·obtain ⟨j,hj,rfl⟩:=List.getElem_of_mem hy
     refine ⟨j,by rw [List.length_set];exact hj,?_⟩
     rw [List.getElem_set,if_neg]
     rintro rfl
     exact hne hp
theorem ZoX {f:Str×Str→Bool} {xs:List (Str×Str)} {y:Str×Str} (h:y∈xs.takeWhile f):f y=true∧y∈xs:=by
 induction xs with
 | nil=>simp at h
 | cons x xs ih=>
  rw [List.takeWhile_cons] at h
  cases hf:f x with
  | false=>rw [hf] at h;simp at h
  | true=>
   rw [hf] at h
   rcases List.mem_cons.1 h with rfl | h
   ·exact ⟨hf,List.mem_cons_self ..⟩
   ·exact ⟨(ih h).1,List.mem_cons_of_mem _ (ih h).2⟩
theorem Zv1 (xs:List (Str×Str)) (p x:Str) (h:Srt xs):Srt (Zsr xs p x)∧∀y,y∈Zsr xs p x↔y=(p,x)∨(y∈xs∧y.1≠p):=by
 have e:=List.takeWhile_append_dropWhile (p:=fun q:Str×Str=>Op.bytesLess q.1 p) (l:=xs)
 have hA:∀y∈ahead p xs,Op.bytesLess y.1 p=true:=fun y hy=>(ZoX hy).1
 have hsplit:Srt (ahead p xs++ZgO p xs):=by unfold ahead ZgO;rw [e];exact h
 obtain ⟨s1,s2,s3⟩:=List.pairwise_append.1 hsplit
 have hmem:∀y,y∈xs↔y∈ahead p xs∨y∈ZgO p xs:=fun y=>by
  rw [←List.mem_append];unfold ahead ZgO;rw [e]
 have hhead:∀q r,ZgO p xs=q::r→Op.bytesLess q.1 p=false:=fun q r hq=>by
  have:=List.head?_dropWhile_not (p:=fun q:Str×Str=>Op.bytesLess q.1 p) (l:=xs)
  unfold ZgO at hq
  rw [hq] at this
  simpa using this
 unfold Zsr
 generalize hb:ZgO p xs=B at s1 s2 s3 hmem hhead
 generalize ahead p xs=A at hA s1 s3 hmem
 have hAp:∀y∈A,y.1≠p:=fun y hy q=>by have:=hA y hy;rw [q,Zeo] at this;cases this
 cases B with
 | nil=>
  dsimp only
  refine ⟨List.pairwise_append.2 ⟨s1,List.pairwise_singleton ..,fun a ha b hb=>?_⟩,fun y=>?_⟩
  ·have:b=(p,x):=by simpa using hb
   subst this;exact hA a ha
  ·rw [List.mem_append,List.mem_singleton,hmem]
   constructor
   ·rintro (q | q)
    ·exact .inr ⟨.inl q,hAp y q⟩
    ·exact .inl q
   ·rintro (q | ⟨q | q,_⟩)
    ·exact .inr q
    ·exact .inl q
    ·cases q
 | cons q r=>
  dsimp only
  obtain ⟨t1,t2⟩:=List.pairwise_cons.1 s2
  have hq:=hhead q r rfl
  by_cases he:q.1=p
  ·rw [if_pos he]
   have hr:∀b∈r,Op.bytesLess p b.1=true:=fun b hb=>by rw [←he];exact t1 b hb
   refine ⟨List.pairwise_append.2 ⟨s1,List.pairwise_cons.2 ⟨hr,t2⟩,fun a ha b hb=>?_⟩,fun y=>?_⟩
   ·rcases List.mem_cons.1 hb with rfl | hb
    ·exact hA a ha
    ·exact s3 a ha b (List.mem_cons_of_mem _ hb)
   ·rw [List.mem_append,List.mem_cons,hmem,List.mem_cons]
    constructor
    ·rintro (u | u | u)
     ·exact .inr ⟨.inl u,hAp y u⟩
     ·exact .inl u
     ·refine .inr ⟨.inr (.inr u),fun w=>?_⟩
      have:=hr y u;rw [w,Zeo] at this;cases this
    ·rintro (u | ⟨u | u | u,w⟩)
     ·exact .inr (.inl u)
     ·exact .inl u
     ·subst u;exact absurd he w
     ·exact .inr (.inr u)
  ·rw [if_neg he]
   have hpq:Op.bytesLess p q.1=true:=by
    cases k:Op.bytesLess p q.1 with
    | true=>rfl
    | false=>exact absurd (Zfw _ _ hq k) he
   have hr:∀b∈q::r,Op.bytesLess p b.1=true:=fun b hb=>by
    rcases List.mem_cons.1 hb with rfl | hb
    ·exact hpq
    ·exact ZeL hpq (t1 b hb)
   refine ⟨List.pairwise_append.2 ⟨s1,List.pairwise_cons.2 ⟨hr,s2⟩,fun a ha b hb=>?_⟩,fun y=>?_⟩
   ·rcases List.mem_cons.1 hb with rfl | hb
    ·exact hA a ha
    ·exact s3 a ha b hb
   ·rw [List.mem_append,List.mem_cons,hmem]
    constructor
    ·rintro (u | u | u)
     ·exact .inr ⟨.inl u,hAp y u⟩
     ·exact .inl u
     ·refine .inr ⟨.inr u,fun w=>?_⟩
      have:=hr y u;rw [w,Zeo] at this;cases this
    ·rintro (u | ⟨u | u,w⟩)
     ·exact .inr (.inl u)
     ·exact .inl u
     ·exact .inr (.inr u)
def Zdj (t:List (Str×Str)) (es:List Fil):List (Str×Str):=es.foldl (fun s e=>Zsr s e.1 e.txt) t
def Zi7 (t:List (Str×Str)) (es:List Fil):List (Str×Str):=es.foldl (fun s e=>Zx2 s e.1 e.txt) t
theorem ZlT:∀(es:List Fil) (S O:List (Str×Str)),Srt S→Zvy O→(∀y,y∈S↔y∈O)→Srt (Zdj S es)∧Zvy (Zi7 O es)∧(∀y,y∈Zdj S es↔y∈Zi7 O es)∧(Zi7 O es).length≤O.length+es.length
 | [],S,O,h1,h2,h3=>⟨h1,h2,h3,by simp [Zi7]⟩
 | e::r,S,O,h1,h2,h3=>by
  obtain ⟨a1,a2⟩:=Zv1 S e.1 e.txt h1
  obtain ⟨b1,b2,b3⟩:=Zzu O e.1 e.txt h2
  obtain ⟨c1,c2,c3,c4⟩:=ZlT r (Zsr S e.1 e.txt) (Zx2 O e.1 e.txt) a1 b1 (fun y=>by rw [a2,b2,h3])
  refine ⟨c1,c2,c3,?_⟩
  rw [List.length_cons]
  have:Zi7 O (e::r)=Zi7 (Zx2 O e.1 e.txt) r:=rfl
  rw [this];omega
theorem Zo3 {l:List (Str×Str)} (h:Srt l):Zvy l:=h.imp fun q e=>by rw [e,Zeo] at q;cases q
theorem Zhz (t:List (Str×Str)) (es:List Fil) (h:Srt t):Zj5 (Zi7 t es)=Zdj t es∧Zg7 (Zi7 t es)=true∧(Zdj t es).length=(Zi7 t es).length∧(Zi7 t es).length≤t.length+es.length:=by
 obtain ⟨c1,c2,c3,c4⟩:=ZlT es t t h (Zo3 h) (fun y=>Iff.rfl)
 obtain ⟨d1,d2⟩:=Zo8 _ c2
 have e:Zj5 (Zi7 t es)=Zdj t es:=Zj4 d1 c1 (fun y=>by rw [d2,c3])
 exact ⟨e,ZmM _ c2,by rw [←e,Zi9],c4⟩
theorem Zjq (l:List (Str×Str)) (p x:Str) (hn:l.length≤1048576):∀(j i:Nat),i+j=l.length→
  Za4.l0 (j+1) (l,(l.length:Int),(i:Int),p,x)=some (match (l.drop i).findIdx? (fun f=>f.1==p) with | none=>.inl (p,x) | some k=>.inr (((i+k:Nat):Int),p,x))
 | 0,i,h=>by
  rw [Za4.l0.succ];simp only [Za4.l0.step]
  rw [ZaL (by omega),List.drop_eq_nil_of_le (by omega)];rfl
 | j+1,i,h=>by
  have hi:i<l.length:=by omega
  rw [Za4.l0.succ];simp only [Za4.l0.step]
  rw [ZaK hi,cond_true,Zab _ Zas,Int.toNat_natCast,show l.getD i ([],[])=l[i] from Zan hi]
  simp only [Zdb,Zaa]
  rw [Zaf (by omega) (by omega),show (i:Int)+1=((i+1:Nat):Int) by omega,Zjq l p x hn j (i+1) (by omega),List.drop_eq_getElem_cons hi,List.findIdx?_cons]
  cases l[i].1==p with
  | true=>simp
  | false=>
   simp only [cond_false,Bool.false_eq_true,if_false]
   cases (l.drop (i+1)).findIdx? (fun f=>f.1==p) with
   | none=>rfl
   | some k=>simp only [Option.map_some];congr 3;omega
theorem Zps (l:List (Str×Str)) (p x:Str) (hn:l.length≤1048576):Za4 l p x=some (atZ (l.findIdx? (fun f=>f.1==p)),p,x):=by
 have h:=Zjq l p x hn l.length 0 (by omega)
 rw [show ((0:Nat):Int)=0 from rfl,List.drop_zero] at h
 unfold Za4
 rw [ZaC,h]
 cases l.findIdx? (fun f=>f.1==p) with
 | none=>rfl
 | some k=>simp [atZ]
theorem ZiF (t:List (Str×Str)) (es:List Fil) (hn:es.length≤1000):∀(j i:Nat) (out:List (Str×Str)),i+j=es.length→out.length≤2000+i→
  ZaT.l0 (j+1) (t,(es.length:Int),(i:Int),out,es)=some (t,Zi7 out (es.drop i))
 | 0,i,out,h,ho=>by
  rw [ZaT.l0.succ];simp only [ZaT.l0.step]
  rw [ZaL (by omega),List.drop_eq_nil_of_le (by omega)];rfl
 | j+1,i,out,h,ho=>by
  have hi:i<es.length:=by omega
  rw [ZaT.l0.succ];simp only [ZaT.l0.step]
  rw [ZaK hi,cond_true,Zab _ Zas,Int.toNat_natCast,Zh7 es i hi,Zps _ _ _ (by omega),List.drop_eq_getElem_cons hi]
  simp only [Zaa]
  have hput:Zi7 out (es[i]::es.drop (i+1))=Zi7 (Zx2 out es[i].1 es[i].txt) (es.drop (i+1)):=rfl
  rw [hput,Zaf (by omega) (by omega),show (i:Int)+1=((i+1:Nat):Int) by omega]
  unfold Zx2
  cases hf:out.findIdx? (fun f=>f.1==es[i].1) with
  | none=>
   rw [show atZ none= -1 from rfl,show decide ((-1:Int)≥0)=false from rfl,cond_false,Zad (by simp;omega)]
   exact ZiF t es hn j (i+1) _ (by omega) (by simp;omega)
  | some k=>
   have hk:=(List.findIdx?_eq_some_iff_getElem.1 hf).1
   rw [show atZ (some k)=(k:Int) from rfl,decide_eq_true (by omega),cond_true,Zab _ (by simp;omega),Int.toNat_natCast]
   exact ZiF t es hn j (i+1) _ (by omega) (by simp;omega)
def Zcm (t:List (Str×Str)) (text:Str):Int×List (Str×Str):=match ZdR text with
 | none=>(1,[])
 | some es=>if ZdI t=true then (if 8<(Zdj t es).length then (4,t) else if ZdI (Zdj t es)=true then (0,Zdj t es) else (3,t)) else (1,[])
theorem ZeZ {t:List (Str×Str)} (h:ZdI t=true):Srt t:=(ZdH h).2.2.2
theorem ZiG:∀(es:List Fil) (t:List (Str×Str)),ZdQ t→(∀e∈es,e.1.length≤1048576∧e.txt.length≤1048576)→ZdQ (Zdj t es)
 | [],t,h,_=>h
 | e::r,t,h,he=>by
  refine ZiG r (Zsr t e.1 e.txt) (fun y hy=>?_) (fun x hx=>he x (List.mem_cons_of_mem _ hx))
  rcases Ztm hy with rfl | hy
  ·exact he e (List.mem_cons_self ..)
  ·exact h y hy
theorem ZpU {es:List Fil} (h:ZfT es=true):∀e∈es,e.1.length≤1048576∧e.txt.length≤1048576:=fun e he=>by
 have:=Zb5 ((Zdz h).1 e he)
 exact ⟨Zyh h e he,by omega⟩
theorem Zfz (t:List (Str×Str)) (text:Str) (hn:t.length≤1048576) (hs:ZdQ t) (ht:text.length≤1048576):ZaT t text=some (Zcm t text):=by
 unfold ZaT Zcm
 rw [ZpY text ht]
 simp only [Zaa]
 rw [ZcX t hn hs]
 simp only [Zaa]
 cases hz:ZdR text with
 | none=>cases ZdI t<;>rfl
 | some es=>
  simp only [zipZ]
  cases htm:ZdI t with
  | false=>rw [if_neg (by simp)];rfl
  | true=>
   have hok:=ZjT hz
   have h6:=(Zdz hok).2
   have h8:=(ZdH htm).2.1
   obtain ⟨s1,s2,s3,s4⟩:=Zhz t es (ZeZ htm)
   rw [if_pos rfl]
   simp only [Bool.not_true,cond_false,Zaa]
   rw [Zad (by simp;omega),List.nil_append]
   have hl:=ZiF t es (by omega) es.length 0 t (by omega) (by omega)
   rw [show ((0:Nat):Int)=0 from rfl,List.drop_zero] at hl
   rw [ZaC,hl]
   simp only [Zaa]
   unfold Zqg Zqf
   rw [s2,Bool.true_and,Zad (by omega),s1]
   simp only [Zaa]
   by_cases c:8<(Zdj t es).length
   ·rw [if_pos c,decide_eq_true (by omega),cond_true,Zad (by simp;omega),List.nil_append]
   ·rw [if_neg c,decide_eq_false (by omega),cond_false,ZcX _ (by omega) (ZiG es t hs (ZpU hok))]
    simp only [Zaa]
    cases ZdI (Zdj t es) with
    | false=>
     simp only [Bool.not_false,cond_true]
     rw [Zad (by simp;omega),List.nil_append,if_neg (by simp)]
    | true=>
     simp only [Bool.not_true,cond_false]
     rw [Zad (by simp;omega),List.nil_append,if_pos trivial]
end Ev
end
section
namespace Ev
open Go
theorem ZrP (t:List (Str×Str)) (hn:t.length≤1048576):∀(j i:Nat),i+j=t.length→Zcl.l0 (j+1) (t,t,(i:Int))=some (.inl ())
 | 0,i,h=>by
  rw [Zcl.l0.succ];simp only [Zcl.l0.step]
  rw [ZaL (by omega)];rfl
 | j+1,i,h=>by
  have hi:i<t.length:=by omega
  rw [Zcl.l0.succ];simp only [Zcl.l0.step]
  rw [ZaK hi,cond_true,Zab _ Zas,Zab _ Zas]
  simp only [beq_self_eq_true,Bool.and_self,Bool.not_true,cond_false]
  rw [Zaf (by omega) (by omega),show (i:Int)+1=((i+1:Nat):Int) by omega]
  exact ZrP t hn j (i+1) (by omega)
theorem Zd8 (t:List (Str×Str)) (hn:t.length≤1048576):Zcl t t=some true:=by
 unfold Zcl
 have h:=ZrP t hn t.length 0 (by omega)
 rw [show ((0:Nat):Int)=0 from rfl] at h
 rw [ZaC,h]
 simp
end Ev
end
section
namespace Ev
open Go
theorem Zhx (t:List (Str×Str)) (es:List Fil) (hn:es.length≤1000):∀(j i:Nat) (out:List (Str×Str)),i+j=es.length→out.length≤2000+i→
  ZaB.l0 (j+1) (t,(i:Int),es,out)=some (t,Zdj out (es.drop i))
 | 0,i,out,h,ho=>by
  rw [ZaB.l0.succ];simp only [ZaB.l0.step]
  rw [ZaL (by omega),List.drop_eq_nil_of_le (by omega)];rfl
 | j+1,i,out,h,ho=>by
  have hi:i<es.length:=by omega
  rw [ZaB.l0.succ];simp only [ZaB.l0.step]
  rw [ZaK hi,cond_true,Zab _ Zas,Zab _ Zas,Int.toNat_natCast,Zh7 es i hi,Zrf _ _ _ (by omega),List.drop_eq_getElem_cons hi]
  simp only [Zaa]
  have hput:Zdj out (es[i]::es.drop (i+1))=Zdj (Zsr out es[i].1 es[i].txt) (es.drop (i+1)):=rfl
  have hle:=Ztn out es[i].1 es[i].txt
  rw [hput,Zaf (by omega) (by omega),show (i:Int)+1=((i+1:Nat):Int) by omega]
  exact Zhx t es hn j (i+1) _ (by omega) (Nat.le_trans hle (by omega))
theorem Zhy (t:List (Str×Str)) (text:Str) (hn:t.length≤1048576) (hs:ZdQ t) (ht:text.length≤1048576):ZaB t text=some (Zcm t text):=by
 unfold ZaB Zcm
 rw [Zo5 text ht]
 simp only [Zaa]
 rw [Ze1 t hn hs]
 simp only [Zaa]
 cases hz:ZdR text with
 | none=>cases ZdI t<;>rfl
 | some es=>
  simp only [zipZ]
  cases htm:ZdI t with
  | false=>rw [if_neg (by simp)];rfl
  | true=>
   have hok:=ZjT hz
   have h6:=(Zdz hok).2
   have h8:=(ZdH htm).2.1
   obtain ⟨s1,s2,s3,s4⟩:=Zhz t es (ZeZ htm)
   rw [if_pos rfl]
   simp only [Bool.not_true,cond_false,Zaa]
   rw [Zad (by simp;omega),List.nil_append]
   have hl:=Zhx t es (by omega) es.length 0 t (by omega) (by omega)
   rw [show ((0:Nat):Int)=0 from rfl,List.drop_zero] at hl
   rw [ZaC,hl]
   simp only [Zaa]
   by_cases c:8<(Zdj t es).length
   ·rw [if_pos c,decide_eq_true (by omega),cond_true,Zad (by simp;omega),List.nil_append]
   ·rw [if_neg c,decide_eq_false (by omega),cond_false,Ze1 _ (by omega) (ZiG es t hs (ZpU hok))]
    simp only [Zaa]
    cases ZdI (Zdj t es) with
    | false=>
     simp only [Bool.not_false,cond_true]
     rw [Zad (by simp;omega),List.nil_append,if_neg (by simp)]
    | true=>
     simp only [Bool.not_true,cond_false]
     rw [if_pos trivial]
theorem ZfC:∀(es:List Fil) (t:List (Str×Str)),Srt t→(es.Pairwise fun a b=>a.1≠b.1)→∀y,y∈Zdj t es↔(∃e∈es,y=(e.1,e.txt))∨(y∈t∧∀e∈es,e.1≠y.1)
 | [],t,h,_,y=>by simp [Zdj]
 | e::r,t,h,hu,y=>by
  obtain ⟨a1,a2⟩:=Zv1 t e.1 e.txt h
  obtain ⟨u1,u2⟩:=List.pairwise_cons.1 hu
  have hput:Zdj t (e::r)=Zdj (Zsr t e.1 e.txt) r:=rfl
  rw [hput,ZfC r _ a1 u2 y,a2]
  constructor
  ·rintro (⟨x,hx,q⟩ | ⟨q | ⟨q1,q2⟩,w⟩)
   ·exact .inl ⟨x,List.mem_cons_of_mem _ hx,q⟩
   ·exact .inl ⟨e,List.mem_cons_self ..,q⟩
   ·refine .inr ⟨q1,fun x hx=>?_⟩
    rcases List.mem_cons.1 hx with rfl | hx
    ·exact fun k=>q2 k.symm
    ·exact w x hx
  ·rintro (⟨x,hx,q⟩ | ⟨q1,q2⟩)
   ·rcases List.mem_cons.1 hx with rfl | hx
    ·refine .inr ⟨.inl q,fun x' hx' k=>?_⟩
     rw [q] at k
     exact u1 x' hx' k.symm
    ·exact .inl ⟨x,hx,q⟩
   ·exact .inr ⟨.inr ⟨q1,fun k=>q2 e (List.mem_cons_self ..) k.symm⟩,fun x hx=>q2 x (List.mem_cons_of_mem _ hx)⟩
theorem Zei (t:List (Str×Str)) (es:List Fil) (h:Srt t):Srt (Zdj t es):=(ZlT es t t h (Zo3 h) (fun y=>Iff.rfl)).1
theorem Zsa {t:List (Str×Str)} {es:List Fil} (h:Srt t) (hz:ZfT es=true):Zdj (Zdj t es) es=Zdj t es:=by
 have hu:=Zgs hz
 refine Zj4 (Zei _ es (Zei t es h)) (Zei t es h) (fun y=>?_)
 rw [ZfC es _ (Zei t es h) hu,ZfC es t h hu]
 constructor
 ·rintro (q | ⟨q,_⟩)
  ·exact .inl q
  ·exact q
 ·rintro (q | ⟨q,w⟩)
  ·exact .inl q
  ·exact .inr ⟨.inr ⟨q,w⟩,w⟩
theorem ZlO {t:List (Str×Str)} (h:ZdI t=true):t.length≤1048576∧ZdQ t:=by
 obtain ⟨h1,h2,_⟩:=ZdH h
 refine ⟨by omega,fun x hx=>?_⟩
 have:=h1 x hx
 have:=ZcT this.1
 omega
theorem ZvH (t:List (Str×Str)) (hn:t.length≤1048576) (hs:ZdQ t):ZdI t=ZxP t:=by
 have h1:=ZcX t hn hs
 rw [Zrk t hn hs] at h1
 exact (Option.some.inj h1).symm
theorem ZvF {t s:List (Str×Str)} (h:ZdI t=true) (hs:s.Sublist t):ZdI s=true:=by
 obtain ⟨g1,g2⟩:=ZlO h
 have hl:=hs.length_le
 have hss:ZdQ s:=fun x hx=>g2 x (hs.subset hx)
 rw [ZvH s (by omega) hss,Zp6]
 rw [ZvH t g1 g2,Zp6] at h
 exact h.sub hs
def atP (t:List (Str×Str)) (p:Str):Option Nat:=t.findIdx? fun f=>f.1==p
theorem Zxp (t:List (Str×Str)) (p:Str) (hn:t.length≤1048576):∀(j i:Nat),i+j=t.length→
  Zif.l0 (j+1) (t,p,(i:Int))=some (match atP (t.drop i) p with | none=>.inl () | some k=>.inr ((i+k:Nat):Int))
 | 0,i,h=>by
  rw [Zif.l0.succ];simp only [Zif.l0.step]
  rw [ZaL (by omega),List.drop_eq_nil_of_le (by omega)];rfl
 | j+1,i,h=>by
  have hi:i<t.length:=by omega
  rw [Zif.l0.succ];simp only [Zif.l0.step]
  rw [ZaK hi,cond_true,Zab _ Zas,Int.toNat_natCast,show t.getD i ([],[])=t[i] from Zan hi,Zaf (by omega) (by omega),show (i:Int)+1=((i+1:Nat):Int) by omega,Zxp t p hn j (i+1) (by omega)]
  unfold atP
  rw [List.drop_eq_getElem_cons hi,List.findIdx?_cons]
  cases t[i].1==p with
  | true=>simp
  | false=>
   simp only [cond_false,Bool.false_eq_true,if_false]
   cases (t.drop (i+1)).findIdx? (fun f=>f.1==p) with
   | none=>rfl
   | some k=>simp only [Option.map_some];congr 3;omega
theorem ZsY (t:List (Str×Str)) (p:Str) (hn:t.length≤1048576):Zif t p=some (atZ (atP t p)):=by
 have h:=Zxp t p hn t.length 0 (by omega)
 rw [show ((0:Nat):Int)=0 from rfl,List.drop_zero] at h
 unfold Zif
 rw [ZaC,h]
 cases atP t p with
 | none=>rfl
 | some k=>simp [atZ]
theorem Zuj {t:List (Str×Str)} {p:Str} {i:Nat} (h:atP t p=some i):∃hi:i<t.length,t[i].1=p:=by
 obtain ⟨hi,h1,_⟩:=List.findIdx?_eq_some_iff_getElem.1 h
 exact ⟨hi,by simpa using h1⟩
theorem ZyS {t:List (Str×Str)} {p:Str} (h:atP t p=none):∀f∈t,f.1≠p:=fun e he=>by
 have:=List.findIdx?_eq_none_iff.1 h e he
 simpa using this
theorem ZpK {t:List (Str×Str)} (h:Srt t) {f:Str×Str} (hf:f∈t):∃i,atP t f.1=some i∧∃hi:i<t.length,t[i]=f:=by
 cases ha:atP t f.1 with
 | none=>exact absurd rfl (ZyS ha f hf)
 | some i=>
  obtain ⟨hi,e⟩:=Zuj ha
  refine ⟨i,rfl,hi,?_⟩
  obtain ⟨k,hk,rfl⟩:=List.getElem_of_mem hf
  have hu:=List.pairwise_iff_getElem.1 (Zo3 h)
  rcases Nat.lt_trichotomy i k with q | q | q
  ·exact absurd e (hu i k hi hk q)
  ·subst q;rfl
  ·exact absurd e.symm (hu k i hk hi q)
theorem ZzX {t:List (Str×Str)} {p:Str} (h:∀f∈t,f.1≠p):atP t p=none:=by
 cases ha:atP t p with
 | none=>rfl
 | some k=>
  obtain ⟨hk,e⟩:=Zuj ha
  exact absurd e (h _ (List.getElem_mem hk))
theorem Zhs {t:List (Str×Str)} {place:Str} {st:Int×Int×Int×Int×Int×Int} (y:Str×Str):(∃e∈Zbx t place st,y=(e.1,e.txt))↔y∈t.filter fun f=>Zid place f.1:=by
 unfold Zbx
 constructor
 ·rintro ⟨e,he,rfl⟩
  obtain ⟨f,hf,rfl⟩:=List.mem_map.1 he
  exact hf
 ·intro hy
  exact ⟨_,List.mem_map.2 ⟨y,hy,rfl⟩,rfl⟩
theorem ZxQ {t:List (Str×Str)} (h:ZdI t=true) (place:Str) {st:Int×Int×Int×Int×Int×Int} (hz:ZfT (Zbx t place st)=true):Zdj [] (Zbx t place st)=t.filter fun f=>Zid place f.1:=by
 have hs:Srt (t.filter fun f=>Zid place f.1):=(ZeZ h).sublist (List.filter_sublist ..)
 refine Zj4 (Zei [] _ List.Pairwise.nil) hs (fun y=>?_)
 rw [ZfC _ [] List.Pairwise.nil (Zgs hz),Zhs]
 simp
theorem ZvI {t:List (Str×Str)} (h:ZdI t=true) (place:Str) {st:Int×Int×Int×Int×Int×Int} (hz:ZfT (Zbx t place st)=true):Zdj t (Zbx t place st)=t:=by
 refine Zj4 (Zei t _ (ZeZ h)) (ZeZ h) (fun y=>?_)
 rw [ZfC _ t (ZeZ h) (Zgs hz),Zhs]
 constructor
 ·rintro (q | ⟨q,_⟩)
  ·exact (List.mem_filter.1 q).1
  ·exact q
 ·intro q
  by_cases c:y∈t.filter fun f=>Zid place f.1
  ·exact .inl c
  ·refine .inr ⟨q,fun e he k=>c ?_⟩
   have hy:(e.1,e.txt)∈t.filter fun f=>Zid place f.1:=(Zhs (st:=st) _).1 ⟨e,he,rfl⟩
   have h1:=(List.mem_filter.1 hy)
   refine List.mem_filter.2 ⟨q,?_⟩
   rw [←k];exact h1.2
theorem ZlN {t:List (Str×Str)} (hM:ZdI t=true) {es:List Fil} (hz:ZfT es=true):Zcm t (Zr6 es)=if 8<(Zdj t es).length then (4,t) else if ZdI (Zdj t es)=true then (0,Zdj t es) else (3,t):=by
 unfold Zcm
 rw [ZpZ es hz]
 dsimp only
 rw [if_pos hM]
theorem Zp5 {t:List (Str×Str)} (hM:ZdI t=true) {s:Str} {es:List Fil} (hz:ZdR s=some es):Zcm t s=if 8<(Zdj t es).length then (4,t) else if ZdI (Zdj t es)=true then (0,Zdj t es) else (3,t):=by
 unfold Zcm
 rw [hz]
 dsimp only
 rw [if_pos hM]
theorem ZnA (xs:List Int) (h:ZoP xs) (hl:xs.length≤1048576):Ret (ZbJ xs) fun r=>r.1.length≤4000∧Zlm 6 r.2:=by
 unfold ZbJ
 refine .bind (ZtL xs h hl) ?_
 rintro ⟨b,p⟩ ⟨rfl,hr⟩
 dsimp only at hr ⊢
 refine .bind (Ziu hr (by omega)) ?_
 rintro ⟨b0,p0,t⟩ ⟨rfl,f1,f2,f3⟩
 dsimp only at f1 f2 f3 ⊢
 refine .bind (Zyx (hr.up f1) (by omega)) ?_
 rintro ⟨s,b1,p1⟩ ⟨rfl,g1,g2,es,g3,g4⟩
 dsimp only at g1 g2 g4 ⊢
 subst g4
 have:=Zr5 es g3
 refine .bind (ZwN (Zr6 es) (by omega) ((hr.up f1).up g1) (by omega)) ?_
 rintro ⟨u,b2,p2⟩ ⟨rfl,k1,k2,k3⟩
 dsimp only at k3 ⊢
 exact .pure ⟨by dsimp only;omega,f3⟩
end Ev
end
section
namespace Ev
open Go
theorem Zsc (xs:List (Str×Str)) (hl:xs.length≤maxLen) (g:∀y,y∈xs→gEl [.str,.str] y):∃v,Zb8 xs 1048576=some v∧(v<0∨(xs.length≤1048576∧ZdQ xs)):=by
 have hm:maxLen=9223372036854775807:=by decide
 exact Zuw xs (by omega) (fun x hx=>by
  have:=g x hx
  simp only [gEl,gSc] at this
  exact ⟨by omega,by omega⟩)
end Ev
end
section
namespace Ev
open Go
theorem Zmi:∀(n k:Nat) (out:Str),k<n→out.length+k≤1000000000→∃r:Str,Zbi.l0 n ((k:Int),out)=some r∧r.length≤1000000000
 | 0,k,out,h,_=>absurd h (Nat.not_lt_zero _)
 | n+1,k,out,h,hl=>by
  rw [Zbi.l0.succ];simp only [Zbi.l0.step]
  by_cases hk:0<k
  ·rw [decide_eq_true (show (k:Int)>0 by omega),cond_true,Zad (by simp [Zbu];omega),Zav (by omega),Zaf (n:=(k:Int)/10) (by omega) (by omega),show (k:Int)/10=((k/10:Nat):Int) by omega]
   exact Zmi n (k/10) _ (by omega) (by simp [Zbu];omega)
  ·rw [decide_eq_false (show ¬(k:Int)>0 by omega),cond_false]
   exact ⟨out,rfl,by omega⟩
theorem ZqJ (k:Nat) (hk:k≤100000000):∃r,Zbi (k:Int)=some r:=by
 unfold Zbi
 by_cases c:k=0
 ·rw [decide_eq_true (by omega)];exact ⟨_,rfl⟩
 ·obtain ⟨r,h1,h2⟩:=Zmi (k+1) k [] (by omega) (by simp;omega)
  rw [decide_eq_false (by omega),cond_false,show ((k:Int)-0).toNat+1=k+1 by omega,h1]
  simp only [Zaa]
  rw [Zad (by simp;omega)]
  exact ⟨_,rfl⟩
def mkT (k:Nat):Str:=(Zbi (k:Int)).getD []
theorem ZgZ (k:Nat) (hk:k≤100000000):Zbi (k:Int)=some (mkT k):=by
 obtain ⟨r,h⟩:=ZqJ k hk
 unfold mkT
 rw [h];rfl
def ZrX (i:Nat) (a:List (Str×Str)):Prop:=∀m (h:m<a.length),m<i→a[m]=(mkT (1+2*m),mkT (2+2*m))
theorem Zk4:∀(j i:Nat) (a:List (Str×Str)),i+j=a.length→a.length≤2000000→ZrX i a→
  ∃a',Zbg.l0 (j+1) (((1+2*i:Nat):Int),(i:Int),a)=some (((1+2*a.length:Nat):Int),a')∧a'.length=a.length∧ZrX a'.length a'
 | 0,i,a,h,hl,hm=>by
  rw [Zbg.l0.succ];simp only [Zbg.l0.step]
  rw [ZaL (by omega),show i=a.length by omega]
  exact ⟨a,rfl,rfl,by rw [show i=a.length by omega] at hm;exact hm⟩
 | j+1,i,a,h,hl,hm=>by
  have hi:i<a.length:=by omega
  rw [Zbg.l0.succ];simp only [Zbg.l0.step]
  rw [ZaK hi,cond_true,ZgZ _ (by omega)]
  simp only [Zaa]
  rw [Zab _ Zas,Int.toNat_natCast,Zaf (n:=((1+2*i:Nat):Int)+1) (by omega) (by omega),show ((1+2*i:Nat):Int)+1=((2+2*i:Nat):Int) by omega,ZgZ _ (by omega)]
  simp only [Zaa]
  rw [Zab _ (by simp;omega),Zaf (n:=((2+2*i:Nat):Int)+1) (by omega) (by omega),Zaf (n:=(i:Int)+1) (by omega) (by omega),show ((2+2*i:Nat):Int)+1=((1+2*(i+1):Nat):Int) by omega,show (i:Int)+1=((i+1:Nat):Int) by omega]
  rw [List.set_set,Zan (by rw [List.length_set];exact hi),List.getElem_set_self]
  dsimp only
  obtain ⟨a',e1,e2,e3⟩:=Zk4 j (i+1) (a.set i (mkT (1+2*i),mkT (2+2*i))) (by rw [List.length_set];omega) (by rw [List.length_set];omega) (fun m hml hmi=>by
   rw [List.getElem_set]
   split
   ·rename_i q;subst q;rfl
   ·rename_i q;exact hm m (by rw [List.length_set] at hml;exact hml) (by omega))
  rw [List.length_set] at e1 e2
  exact ⟨a',e1,e2,e3⟩
theorem Zk5 (a:List (Str×Str)) (hl:a.length≤2000000):∃a',Zbg 1 a=some (((1+2*a.length:Nat):Int),a')∧a'.length=a.length∧ZrX a'.length a':=by
 obtain ⟨a',e1,e2,e3⟩:=Zk4 a.length 0 a (by omega) hl (fun m _ hm=>absurd hm (by omega))
 rw [show ((1+2*0:Nat):Int)=1 from rfl,show ((0:Nat):Int)=0 from rfl] at e1
 refine ⟨a',?_,e2,e3⟩
 unfold Zbg
 rw [ZaC,e1];rfl
theorem Zk9 (a:List (Str×Str)) (hl:a.length≤2000000) (hm:ZrX a.length a):∀(j i:Nat),i+j=a.length→Zbh.l0 (j+1) (a,((1+2*i:Nat):Int),(i:Int))=some (.inl ((1+2*a.length:Nat):Int))
 | 0,i,h=>by
  rw [Zbh.l0.succ];simp only [Zbh.l0.step]
  rw [ZaL (by omega),show i=a.length by omega];rfl
 | j+1,i,h=>by
  have hi:i<a.length:=by omega
  rw [Zbh.l0.succ];simp only [Zbh.l0.step]
  rw [ZaK hi,cond_true,Zab _ Zas,Zab _ Zas,Int.toNat_natCast,show a.getD i ([],[])=a[i] from Zan hi,hm i hi hi,ZgZ _ (by omega)]
  simp only [Zaa,beq_self_eq_true,Bool.not_true,cond_false]
  rw [Zaf (n:=((1+2*i:Nat):Int)+1) (by omega) (by omega),show ((1+2*i:Nat):Int)+1=((2+2*i:Nat):Int) by omega,ZgZ _ (by omega)]
  simp only [Zaa,beq_self_eq_true,Bool.not_true,cond_false]
  rw [Zaf (n:=((2+2*i:Nat):Int)+1) (by omega) (by omega),Zaf (n:=(i:Int)+1) (by omega) (by omega),show ((2+2*i:Nat):Int)+1=((1+2*(i+1):Nat):Int) by omega,show (i:Int)+1=((i+1:Nat):Int) by omega]
  exact Zk9 a hl hm j (i+1) (by omega)
theorem Zrm (a:List (Str×Str)) (hl:a.length≤2000000) (hm:ZrX a.length a):Zbh a 1=some ((1+2*a.length:Nat):Int):=by
 have e1:=Zk9 a hl hm a.length 0 (by omega)
 rw [show ((1+2*0:Nat):Int)=1 from rfl,show ((0:Nat):Int)=0 from rfl] at e1
 unfold Zbh
 rw [ZaC,e1];rfl
theorem ZoW (t:List (Str×Str)) (s:Str):(Zcm t s).2.length≤t.length∨(Zcm t s).2.length≤8:=by
 unfold Zcm
 split
 ·right;simp
 ·split
  ·split
   ·left;exact Nat.le_refl _
   ·split
    ·right;dsimp only;omega
    ·left;exact Nat.le_refl _
  ·right;simp
theorem Zig (t:List (Str×Str)) (l:t.length≤maxLen) (g:∀y,y∈t→gEl [.str,.str] y) (text:Str) (lt:text.length≤maxLen):FnExactTreeTake t text=some true:=by
 unfold FnExactTreeTake
 by_cases hp:text.length>1048576
 ·rw [decide_eq_true (by omega)];rfl
 rw [decide_eq_false (by omega),cond_false]
 obtain ⟨v,e,hv⟩:=Zsc t l g
 rw [e]
 simp only [Zaa]
 by_cases hn:v<0
 ·rw [decide_eq_true hn];rfl
 rw [decide_eq_false hn,cond_false]
 obtain ⟨hl,hs⟩:=hv.resolve_left hn
 have hlen:=ZoW t text
 rw [Zuu t (by omega)]
 simp only [Zaa]
 rw [Zhy t text hl hs (by omega),Zfz t text hl hs (by omega)]
 cases hM:Zcm t text with
 | mk k x=>
  rw [hM] at hlen
  dsimp only at hlen
  simp only [Zaa]
  have hbig:x.length≤1048576:=by omega
  obtain ⟨a1,m1,m2,m3⟩:=Zk5 t (by omega)
  obtain ⟨a2,n1,n2,n3⟩:=Zk5 x (by omega)
  have hh:=Zrm a2 (by omega) n3
  rw [n2] at hh
  rw [Zlc x hbig]
  simp only [Zaa,Bool.not_true,cond_false,bne_self_eq_false]
  rw [Zlc t hl]
  simp only [Zaa,Bool.not_true,cond_false,bne_self_eq_false]
  rw [m1]
  simp only [Zaa]
  rw [decide_eq_false (show ¬((1+2*t.length:Nat):Int)<0 by omega),cond_false]
  simp only [Zaa,Bool.not_true,cond_false,bne_self_eq_false]
  rw [n1]
  simp only [Zaa]
  rw [hh]
  simp only [Zaa]
  rw [decide_eq_false (show ¬((1+2*x.length:Nat):Int)<0 by omega)]
  simp only [Zaa,Bool.not_true,cond_false,bne_self_eq_false]
end Ev
end
section
namespace Ev
open Go
theorem Zy2:((1:Int) != 0)=true:=rfl
theorem Zw2:((4:Int) != 0)=true:=rfl
theorem Zzj:((0:Int)==0)=true:=rfl
end Ev
end
section
namespace Ev
open Go
theorem ZjD (xs:List Int) (h:ZoP xs) (hl:xs.length≤1048576):Ret (Zbw xs) fun r=>r.1.length≤11∧Zlm 6 r.2.2.2.2.2.2.2:=by
 unfold Zbw
 refine .bind (ZtL xs h hl) ?_
 rintro ⟨b,p⟩ ⟨rfl,hr⟩
 dsimp only at hr ⊢
 refine .bind (Ziu hr (by omega)) ?_
 rintro ⟨b0,p0,t⟩ ⟨rfl,f1,f2,f3⟩
 dsimp only at f1 f2 f3 ⊢
 refine .bind (Zre (hr.up f1) (by omega)) ?_
 rintro ⟨n,b1,p1⟩ ⟨rfl,g1,g2,g3⟩
 dsimp only at g1 g2 g3 ⊢
 refine .bind (Zir _ ((hr.up f1).up g1) (by omega) (by simp) (by simp)) ?_
 rintro ⟨z,b2,p2⟩ ⟨rfl,k1,k2,k3⟩
 dsimp only at k1 k2 k3 ⊢
 refine .bind (Zpn (((hr.up f1).up g1).up k1) (by omega)) ?_
 rintro _ ⟨y,mo,d,hh,mi,s,p3,rfl,m1,m2,_⟩
 refine .pure ⟨?_,f3⟩
 dsimp only
 simp only [List.mem_cons,List.not_mem_nil,or_false] at k3
 rcases k3 with rfl | rfl | rfl | rfl | rfl
 ·decide
 ·decide
 ·decide
 ·decide
 ·exact g3
theorem Zi6 (t:List (Str×Str)) (place:Str) (st:Int×Int×Int×Int×Int×Int):ZfU t place st=([],1)∨ZfU t place st=([],4)∨(ZdI t=true∧ZfT (Zbx t place st)=true∧ZfU t place st=(Zr6 (Zbx t place st),0)):=by
 unfold ZfU
 by_cases h:ZdI t=true∧(place=[]∨ZbN place=true)∧stM st.1 st.2.1 st.2.2.1 st.2.2.2.1 st.2.2.2.2.1 st.2.2.2.2.2=true
 ·rw [if_pos h]
  by_cases h6:6<(Zbx t place st).length
  ·rw [if_pos h6];exact .inr (.inl rfl)
  ·rw [if_neg h6];exact .inr (.inr ⟨h.1,Zhr h.1 place h.2.2 (by omega),rfl⟩)
 ·rw [if_neg h];exact .inl rfl
theorem Znj (xs:List Int) (h:ZoP xs):FnTreeBack xs=some true:=by
 unfold FnTreeBack
 by_cases c:xs.length>1048576
 ·rw [decide_eq_true (by omega)];rfl
 rw [decide_eq_false (by omega),cond_false]
 obtain ⟨⟨place,y,mo,d,hh,mi,s,t⟩,hd,hp,hB⟩:=ZjD xs h (by omega)
 dsimp only at hp hB
 have hn:=hB.1
 rw [hd]
 simp only [Zaa]
 rw [ZnM t place y mo d hh mi s (by omega) hB.small (by omega),Zik t place y mo d hh mi s (by omega) hB.small (by omega)]
 rcases Zi6 t place (y,mo,d,hh,mi,s) with e | e | ⟨hM,hz,e⟩
 ·rw [e]
  simp only [Zaa,beq_self_eq_true,Bool.not_true,bne_self_eq_false,cond_false,Zy2,cond_true]
  try rfl
 ·rw [e]
  simp only [Zaa,beq_self_eq_true,Bool.not_true,bne_self_eq_false,cond_false,Zw2,cond_true]
  try rfl
 ·rw [e]
  have h8:=(ZdH hM).2.1
  simp only [Zaa,beq_self_eq_true,Bool.not_true,bne_self_eq_false,cond_false]
  rw [Zfz t _ (by omega) hB.small (Zs3 hz),ZlN hM hz,ZvI hM place hz,if_neg (by omega),if_pos hM]
  simp only [Zaa,Zzj,cond_true]
  rw [Zd8 t (by omega)]
  simp only [Zaa,cond_true]
  rw [ZcX t (by omega) hB.small,hM]
  try rfl
end Ev
end
section
namespace Ev
open Go
theorem Zsk (place p:Str) (hp:place.length≤1048576):(bif (decide ((p.length:Int)>(place.length:Int))) then (need (decide (0≤(w64 ((place.length:Int)+1)))&&decide ((w64 ((place.length:Int)+1))≤p.length)) (need (fits (place.length+([47]:Str).length)) (some ((p.take (w64 ((place.length:Int)+1)).toNat)==(place++[47]))))) else (some false))=some (ZdX place p):=by
 rw [←Zek]
 unfold pre
 rw [Zaf (by omega) (by omega)]
 by_cases c:p.length>place.length
 ·rw [decide_eq_true (by omega),cond_true,Zab _ (by simp;omega),Zad (by simp;omega),show ((place.length:Int)+1).toNat=(place++[47]).length by simp<;>omega,decide_eq_true (by simp;omega),Bool.true_and]
 ·rw [decide_eq_false (by omega),cond_false,decide_eq_false (by simp;omega),Bool.false_and]
theorem ZhW (place:Str) (hp:place.length≤1048576) (t:List (Str×Str)) (hM:ZdI t=true):∀(j i n:Nat),i+j=t.length→n≤i→
  FnTreeZip.l0 (j+1) (place,0,(n:Int),(i:Int),t,t.filter fun f=>Zid place f.1)=some (.inl (0,((n+((t.drop i).filter fun f=>Zid place f.1).length:Nat):Int),t.filter fun f=>Zid place f.1))
 | 0,i,n,h,hn=>by
  rw [FnTreeZip.l0.succ];simp only [FnTreeZip.l0.step]
  rw [ZaL (by omega),List.drop_eq_nil_of_le (by omega)];rfl
 | j+1,i,n,h,hn=>by
  have hi:i<t.length:=by omega
  have h8:=(ZdH hM).2.1
  have hl:(t.filter fun f=>Zid place f.1).length≤t.length:=List.length_filter_le ..
  have hs:Srt (t.filter fun f=>Zid place f.1):=(ZeZ hM).sublist (List.filter_sublist ..)
  rw [FnTreeZip.l0.succ];simp only [FnTreeZip.l0.step]
  rw [ZaK hi,cond_true,Zab _ Zas,Int.toNat_natCast,show t.getD i ([],[])=t[i] from Zan hi,Zsk place t[i].1 hp]
  have hin:(bif place==[] then some true else bif t[i].1==place then some true else some (ZdX place t[i].1))=some (Zid place t[i].1):=by
   unfold Zid
   cases place==[] with
   | true=>rfl
   | false=>cases t[i].1==place<;>rfl
  rw [hin]
  simp only [Zaa]
  rw [ZsY _ _ (by omega),Zaf (n:=(i:Int)+1) (by omega) (by omega),show (i:Int)+1=((i+1:Nat):Int) by omega]
  simp only [Zaa]
  have hd:((t.drop i).filter fun f=>Zid place f.1)=if Zid place t[i].1=true then t[i]::((t.drop (i+1)).filter fun f=>Zid place f.1) else ((t.drop (i+1)).filter fun f=>Zid place f.1):=by
   rw [List.drop_eq_getElem_cons hi,List.filter_cons]
  rw [hd]
  cases hc:Zid place t[i].1 with
  | true=>
   have hm:t[i]∈t.filter fun f=>Zid place f.1:=List.mem_filter.2 ⟨List.getElem_mem hi,hc⟩
   obtain ⟨m,e1,hml,e2⟩:=ZpK hs hm
   rw [e1,show atZ (some m)=(m:Int) from rfl,decide_eq_true (show (m:Int)≥0 by omega)]
   simp only [beq_self_eq_true,Bool.not_true,cond_false,cond_true]
   rw [Zab _ (by simp;omega),Zab _ Zas,Int.toNat_natCast,Zan hml,e2]
   simp only [beq_self_eq_true,Bool.and_self,Bool.not_true,Zaa,cond_false]
   rw [Zaf (by omega) (by omega),show (n:Int)+1=((n+1:Nat):Int) by omega,ZhW place hp t hM j (i+1) (n+1) (by omega) (by omega),if_pos trivial,List.length_cons,Nat.add_assoc n 1,Nat.add_comm 1]
  | false=>
   have hout:∀f∈t.filter (fun f=>Zid place f.1),f.1≠t[i].1:=fun f hf q=>by
    have:=(List.mem_filter.1 hf).2
    rw [q,hc] at this;cases this
   rw [ZzX hout,show decide (atZ none≥0)=false from rfl]
   simp only [beq_self_eq_true,Bool.not_true,Zaa,cond_false]
   rw [ZhW place hp t hM j (i+1) n (by omega) (by omega),if_neg (by simp)]
theorem ZvG:ZdI []=true:=rfl
theorem ZnD (xs:List Int) (h:ZoP xs):FnTreeZip xs=some true:=by
 unfold FnTreeZip
 by_cases c:xs.length>1048576
 ·rw [decide_eq_true (by omega)];rfl
 rw [decide_eq_false (by omega),cond_false]
 obtain ⟨⟨place,y,mo,d,hh,mi,s,t⟩,hd,hp,hB⟩:=ZjD xs h (by omega)
 dsimp only at hp hB
 have hn:=hB.1
 rw [hd]
 simp only [Zaa]
 rw [ZnM t place y mo d hh mi s (by omega) hB.small (by omega),Zik t place y mo d hh mi s (by omega) hB.small (by omega)]
 rcases Zi6 t place (y,mo,d,hh,mi,s) with e | e | ⟨hM,hz,e⟩
 ·rw [e]
  simp only [Zaa,beq_self_eq_true,Bool.not_true,bne_self_eq_false,cond_false,Zy2,cond_true]
  try rfl
 ·rw [e]
  simp only [Zaa,beq_self_eq_true,Bool.not_true,bne_self_eq_false,cond_false,Zw2,cond_true]
  try rfl
 ·rw [e]
  have h8:=(ZdH hM).2.1
  have hl:(t.filter fun f=>Zid place f.1).length≤t.length:=List.length_filter_le ..
  have hMf:ZdI (t.filter fun f=>Zid place f.1)=true:=ZvF hM (List.filter_sublist ..)
  simp only [Zaa,beq_self_eq_true,Bool.not_true,bne_self_eq_false,cond_false]
  rw [Zfz [] _ (by simp) (fun x hx=>by cases hx) (Zs3 hz),ZlN ZvG hz,ZxQ hM place hz,if_neg (by omega),if_pos hMf]
  simp only [Zaa]
  have hl0:=ZhW place (by omega) t hM t.length 0 0 (by omega) (by omega)
  rw [show ((0:Nat):Int)=0 from rfl,List.drop_zero,Nat.zero_add] at hl0
  rw [ZaC,hl0]
  simp only [Zaa,beq_self_eq_true,cond_true]
theorem Zuc (l:List Str) (s:Str) (hn:l.length≤1048576):∀(j i:Nat),i+j=l.length→
  ZeS.l0 (j+1) (l,s,(i:Int))=some (if (l.drop i).any (· == s)=true then .inr true else .inl ())
 | 0,i,h=>by
  rw [ZeS.l0.succ];simp only [ZeS.l0.step]
  rw [ZaL (by omega),List.drop_eq_nil_of_le (by omega)];rfl
 | j+1,i,h=>by
  have hi:i<l.length:=by omega
  rw [ZeS.l0.succ];simp only [ZeS.l0.step]
  rw [ZaK hi,cond_true,Zab _ Zas,Int.toNat_natCast,show l.getD i []=l[i] from Zan hi,Zaf (by omega) (by omega),show (i:Int)+1=((i+1:Nat):Int) by omega,Zuc l s hn j (i+1) (by omega),List.drop_eq_getElem_cons hi,List.any_cons]
  cases l[i]==s with
  | true=>rfl
  | false=>rw [Bool.false_or];rfl
theorem Zud (l:List Str) (s:Str) (hn:l.length≤1048576):ZeS l s=some (l.any (· == s)):=by
 have h:=Zuc l s hn l.length 0 (by omega)
 rw [show ((0:Nat):Int)=0 from rfl,List.drop_zero] at h
 unfold ZeS
 rw [ZaC,h]
 cases l.any (· == s)<;>rfl
theorem ZjP (s:Str) (t:List (Str×Str)) (es:List Fil) (names:List Str) (hz:ZfT es=true) (ht:Srt t) (hl:t.length≤1000):∀(j i:Nat),i+j=es.length→
  FnTreeTake.l0 (j+1) (s,(i:Int),t,Zdj t es,es,names)=some (.inl (s,t,Zdj t es,es,names))
 | 0,i,h=>by
  rw [FnTreeTake.l0.succ];simp only [FnTreeTake.l0.step]
  rw [ZaL (by omega)];rfl
 | j+1,i,h=>by
  have hi:i<es.length:=by omega
  have h6:=(Zdz hz).2
  obtain ⟨_,_,q3,q4⟩:=Zhz t es ht
  have hm:(es[i].1,es[i].txt)∈Zdj t es:=(ZfC es t ht (Zgs hz) _).2 (.inl ⟨es[i],List.getElem_mem hi,rfl⟩)
  obtain ⟨m,e1,hml,e2⟩:=ZpK (Zei t es ht) hm
  rw [FnTreeTake.l0.succ];simp only [FnTreeTake.l0.step]
  rw [ZaK hi,cond_true,Zab _ Zas,Int.toNat_natCast,Zh7 es i hi,ZsY _ _ (by omega),e1,show atZ (some m)=(m:Int) from rfl]
  simp only [Zaa]
  rw [decide_eq_false (show ¬(m:Int)<0 by omega),cond_false,Zab _ (by simp;omega),Zab _ Zas,Int.toNat_natCast,Zan hml,e2]
  show ((some (!(es[i].txt==es[i].txt))).bind _)=_
  rw [beq_self_eq_true,Zaa,Bool.not_true,cond_false,Zaf (by omega) (by omega),show (i:Int)+1=((i+1:Nat):Int) by omega]
  exact ZjP s t es names hz ht hl j (i+1) (by omega)
theorem ZjO (s:Str) (t:List (Str×Str)) (es:List Fil) (hz:ZfT es=true) (ht:Srt t) (hl:t.length≤1000):∀(j i:Nat),i+j=t.length→
  FnTreeTake.l1 (j+1) (s,(i:Int),t,Zdj t es,es,es.map Prod.fst)=some (.inl (s,t,Zdj t es,es))
 | 0,i,h=>by
  rw [FnTreeTake.l1.succ];simp only [FnTreeTake.l1.step]
  rw [ZaL (by omega)];rfl
 | j+1,i,h=>by
  have hi:i<t.length:=by omega
  have h6:=(Zdz hz).2
  obtain ⟨_,_,q3,q4⟩:=Zhz t es ht
  have ih:=ZjO s t es hz ht hl j (i+1) (by omega)
  have hmem:=ZfC es t ht (Zgs hz)
  rw [FnTreeTake.l1.succ];simp only [FnTreeTake.l1.step]
  rw [ZaK hi,cond_true,Zab _ Zas,Int.toNat_natCast,show t.getD i ([],[])=t[i] from Zan hi,ZsY _ _ (by omega),Zaf (n:=(i:Int)+1) (by omega) (by omega),show (i:Int)+1=((i+1:Nat):Int) by omega]
  simp only [Zaa]
  cases ha:(es.map Prod.fst).any (· == t[i].1) with
  | true=>
   obtain ⟨n,hn,q⟩:=List.any_eq_true.1 ha
   obtain ⟨e,he,rfl⟩:=List.mem_map.1 hn
   have q:e.1=t[i].1:=by simpa using q
   obtain ⟨m,e1,hml,_⟩:=ZpK (Zei t es ht) ((hmem (e.1,Fil.txt e)).2 (.inl ⟨e,he,rfl⟩))
   rw [q] at e1
   rw [e1,show atZ (some m)=(m:Int) from rfl,decide_eq_false (show ¬(m:Int)<0 by omega),cond_false,Zab _ Zas,Zud _ _ (by rw [List.length_map];omega),ha]
   simp only [Zaa,Bool.not_true,cond_false]
   exact ih
  | false=>
   have hout:∀e∈es,e.1≠t[i].1:=fun e he q=>by
    have:=List.any_eq_false.1 ha e.1 (List.mem_map.2 ⟨e,he,rfl⟩)
    simp [q] at this
   obtain ⟨m,e1,hml,e2⟩:=ZpK (Zei t es ht) ((hmem t[i]).2 (.inr ⟨List.getElem_mem hi,hout⟩))
   rw [e1,show atZ (some m)=(m:Int) from rfl,decide_eq_false (show ¬(m:Int)<0 by omega),cond_false,Zab _ Zas,Zud _ _ (by rw [List.length_map];omega),ha]
   simp only [Zaa,Bool.not_false,cond_true]
   rw [Zab _ (by simp;omega),Zab _ Zas,Int.toNat_natCast,Zan hml,e2]
   simp only [beq_self_eq_true,Bool.and_self,Bool.not_true,Zaa,cond_false]
   exact ih
theorem ZkO {t:List (Str×Str)} {s:Str} {k:Int} {x:List (Str×Str)} (h:Zcm t s=(k,x)) (hk:k≠0):x=t∨x=[]:=by
 unfold Zcm at h
 split at h
 ·exact .inr (congrArg Prod.snd h).symm
 ·split at h
  ·split at h
   ·exact .inl (congrArg Prod.snd h).symm
   ·split at h
    ·exact absurd (congrArg Prod.fst h).symm hk
    ·exact .inl (congrArg Prod.snd h).symm
  ·exact .inr (congrArg Prod.snd h).symm
theorem ZoV {t:List (Str×Str)} {s:Str} {x:List (Str×Str)} (h:Zcm t s=(0,x)):∃es,ZdR s=some es∧ZdI t=true∧(Zdj t es).length≤8∧ZdI (Zdj t es)=true∧x=Zdj t es:=by
 unfold Zcm at h
 split at h
 ·cases congrArg Prod.fst h
 ·rename_i es hz
  split at h
  ·rename_i hM
   split at h
   ·cases congrArg Prod.fst h
   ·rename_i h8
    split at h
    ·rename_i hM2
     exact ⟨es,hz,hM,by omega,hM2,(congrArg Prod.snd h).symm⟩
    ·cases congrArg Prod.fst h
  ·cases congrArg Prod.fst h
theorem Zvm (a b:List (Str×Str)) (ha:a.length≤1048576) (he:a=b∨a.length≠b.length):Zcl a b=some (decide (a=b)):=by
 rcases he with rfl | hne
 ·rw [Zd8 a ha];simp
 ·unfold Zcl
  rw [show ((a.length:Int) != (b.length:Int))=true by simp;omega,cond_true]
  congr 1
  symm
  exact decide_eq_false fun q=>hne (congrArg List.length q)
theorem Zni (xs:List Int) (h:ZoP xs):FnTreeTake xs=some true:=by
 unfold FnTreeTake
 by_cases c:xs.length>1048576
 ·rw [decide_eq_true (by omega)];rfl
 rw [decide_eq_false (by omega),cond_false]
 obtain ⟨⟨s,t⟩,hd,hs,hB⟩:=ZnA xs h (by omega)
 dsimp only at hs hB
 have hn:=hB.1
 rw [hd]
 simp only [Zaa]
 rw [Zfz t s (by omega) hB.small (by omega),Zhy t s (by omega) hB.small (by omega)]
 cases hM:Zcm t s with
 | mk k x=>
  simp only [Zaa,bne_self_eq_false,cond_false]
  by_cases hk:k=0
  ·subst hk
   obtain ⟨es,hz,hMt,h8,hM2,rfl⟩:=ZoV hM
   have hok:=ZjT hz
   have h6:=(Zdz hok).2
   have ht:=ZeZ hMt
   obtain ⟨hsm1,hsm2⟩:=ZlO hM2
   obtain ⟨_,_,q3,q4⟩:=Zhz t es ht
   have hnames:Zdy s=some (es.map Prod.fst):=by
    unfold Zdy
    rw [ZpW (by omega) hz]
    simp only [Zaa]
    rw [Zn6 es (by omega)];rfl
   have hl0:=ZjP s t es (es.map Prod.fst) hok ht (by omega) es.length 0 (by omega)
   have hl1:=ZjO s t es hok ht (by omega) t.length 0 (by omega)
   rw [show ((0:Nat):Int)=0 from rfl] at hl0 hl1
   rw [Zd8 _ (by omega),ZcX t (by omega) hB.small,Ze1 t (by omega) hB.small]
   simp only [Zaa,beq_self_eq_true,Bool.not_true,cond_false,bne_self_eq_false]
   rw [ZpW (by omega) hz]
   simp only [Zaa]
   rw [hnames]
   simp only [Zaa]
   rw [ZaC,hl0]
   simp only [Zaa]
   rw [ZaC,hl1]
   simp only [Zaa]
   rw [Zfz _ s hsm1 hsm2 (by omega),Zp5 hM2 hz,Zsa ht hok,if_neg (by omega),if_pos hM2]
   simp only [Zaa]
   rw [ZcX _ hsm1 hsm2,hM2]
   simp only [Zaa,beq_self_eq_true,cond_true]
   rw [Zd8 _ (by omega)]
   simp only [Zaa,cond_true]
   rw [Zaf (by omega) (by omega),decide_eq_true (by omega)]
  ·have hne:(k != 0)=true:=by simp [hk]
   have hx:x.length≤1048576:=by
    rcases ZkO hM hk with e | e
    ·rw [e];omega
    ·rw [e];simp
   rw [Zd8 x hx,ZcX t (by omega) hB.small,Ze1 t (by omega) hB.small]
   simp only [Zaa,beq_self_eq_true,Bool.not_true,cond_false,hne,cond_true]
   rcases ZkO hM hk with e | e
   ·rw [e,Zd8 t (by omega)];rfl
   ·rw [e]
    by_cases e0:t=[]
    ·rw [e0,Zd8 [] (by simp)];rfl
    ·rw [Zvm [] t (by simp) (.inr (by intro q;exact e0 (List.length_eq_zero_iff.1 q.symm)))]
     simp only [Zaa]
     rw [decide_eq_false (fun q=>e0 q.symm)];rfl
end Ev
end

/- An evaluator over the code of the model, and that it is right. Conditions: as stated. -/
import Derived.Deep.LoopGhost
import Derived.KernelRfl
import Derived.Test.YtiphcamiidggcaaGreatDoorBGA0
set_option linter.unusedVariables false
set_option linter.unusedSimpArgs false
section
namespace Ev
open Go
section
variable {E:Env} {ι:Nat→Option Value} {N:Nat→Prop} {h:Nat→Ob} {w:World} {nid:Nat} {s:Sem Next} {ρ:Type}
 {av:Operand→AV} {ev:Operand→Value} {K:AV→ZbC→Option ρ} {r:ρ}
theorem Zfs {b:Builtin} {args:Array Operand} {argTypes:Array TypeId} {o:Oper} (ho:o.op=.call { callee:=.builtin b,args,argTypes }) {w':World} {v:Value}
  (hb:∀consts,(builtin b argTypes o.type consts (args.map ev)).run E.P w=.ok (.value v) w'):(execOp ev o).run E.P w=.ok (.value v) w':=by
 simp only [execOp,ho,resolve,invoke,Sem.run_bind,Sem.run_pure,Result.andThen_ok]
 exact hb _
theorem Zum (R:Zcd E ι N h w) (T:Zgn E.P E.C) {t:Nat} (ht:ZeK (E.C.ty t).d=true) {a:AV} {x:Value} {K:AV→Option ρ} (hx:VR ι N w a x) (H:Zxj h K (E.C.ty t).d.isStr a=some r) :
  ∃v val,K v=some r∧VR ι N w v val∧∀ty,(Builtin.len_ #[t] ty #[x]).run E.P w=.ok val w:=by
 have hu:=T.und t
 have slc:(E.C.ty t).d.isStr=false→∃e,E.P.underlying t=some (.slice e):=by
  intro h1
  generalize (E.C.ty t).d=q at *
  cases q<;>simp [ZeK,TD.isStr] at ht h1
  exact ⟨_,hu⟩
 have str:(E.C.ty t).d.isStr=true→E.P.underlying t=some .string:=by
  intro h1
  generalize (E.C.ty t).d=q at *
  cases q<;>simp [ZeK,TD.isStr] at ht h1
  exact hu
 have slen:∀{b:Option Addr} {n c:Nat},(E.C.ty t).d.isStr=false→x=.slice b n c→∀ty,(Builtin.len_ #[t] ty #[x]).run E.P w=.ok (.int .i64 n) w:=by
  intro b n c h1 h2 ty
  obtain ⟨e,he⟩:=slc h1
  subst h2
  simp [Builtin.len_,run_underlying he,goInt]
 unfold Zxj at H
 split at H
 ·simp only [VR] at hx;subst hx
  cases hs:(E.C.ty t).d.isStr with
  | false=>rw [hs] at H;simp at H
  | true=>
   rw [hs] at H;simp only [cond_true] at H
   exact ⟨_,_,H,by (simp only [VR];try rfl),fun ty=>by simp [Builtin.len_,run_underlying (str hs),goInt,ZdI]⟩
 ·simp only [VR] at hx
  obtain ⟨b,cap,hx,_⟩:=hx
  cases hs:(E.C.ty t).d.isStr with
  | true=>rw [hs] at H;simp at H
  | false=>
   rw [hs] at H;simp only [cond_false] at H
   exact ⟨_,_,H,by (simp only [VR];try rfl),slen hs hx⟩
 ·simp only [VR] at hx
  cases hs:(E.C.ty t).d.isStr with
  | true=>rw [hs] at H;simp at H
  | false=>
   rw [hs] at H;simp only [cond_false] at H
   exact ⟨_,_,H,by (simp only [VR];try rfl),slen hs hx⟩
 ·rename_i id
  split at H
  ·rename_i ft xs hxs
   cases hs:(E.C.ty t).d.isStr with
   | true=>rw [hs] at H;simp at H
   | false=>
    rw [hs] at H;simp only [cond_false] at H
    simp only [VR] at hx
    obtain ⟨u,hu',hob⟩:=R.ob id (by rw [hxs];simp)
    rw [hx.1] at hu';cases hu'
    rw [hxs] at hob
    obtain ⟨b,cap,e1,_⟩:=hob
    exact ⟨_,_,H,by (simp only [VR];try rfl),slen hs e1⟩
  ·cases H
 ·simp only [VR] at hx
  obtain ⟨_,_,_,_,_,a',cap',hx,_⟩:=hx
  cases hs:(E.C.ty t).d.isStr with
  | true=>rw [hs] at H;simp at H
  | false=>
   rw [hs] at H;simp only [cond_false] at H
   exact ⟨_,_,H,by (simp only [VR];try rfl),slen hs hx⟩
 ·cases H
theorem Zt9 {P:Program} {w:World} {k:IntKind}:∀(l:List AV) (n:Int) (k':IntKind) (m:Int) (vs:List Value),ZcM ZjH k n l=some (k',m)→VRL ι N w l vs→
  (vs.foldlM Builtin.min2 (.int k n)).run P w=.ok (.int k' m) w
 | [],n,k',m,[],h,_=>by simp [ZcM] at h;obtain ⟨rfl,rfl⟩:=h;rfl
 | .int k2 n2::l,n,k',m,v::vs,h,hv=>by
  simp only [ZcM] at h
  split at h
  ·rename_i e;subst e
   simp only [VRL,VR] at hv
   obtain ⟨rfl,hv⟩:=hv
   simp only [List.foldlM_cons,Sem.run_bind,Builtin.min2,Sem.run_pure,Result.andThen_ok]
   exact Zt9 l _ k' m vs h hv
  ·cases h
 | [],_,_,_,_::_,_,hv=>by simp [VRL] at hv
 | .int _ _::_,_,_,_,[],_,hv=>by simp [VRL] at hv
 | .undef::l,_,_,_,_,h,_=>by simp [ZcM] at h
 | .bool _::l,_,_,_,_,h,_=>by simp [ZcM] at h
 | .str _::l,_,_,_,_,h,_=>by simp [ZcM] at h
 | .ro _ _::l,_,_,_,_,h,_=>by simp [ZcM] at h
 | .roe _ _ _::l,_,_,_,_,h,_=>by simp [ZcM] at h
 | .nilsl::l,_,_,_,_,h,_=>by simp [ZcM] at h
 | .nilp::l,_,_,_,_,h,_=>by simp [ZcM] at h
 | .ptr _ _::l,_,_,_,_,h,_=>by simp [ZcM] at h
 | .full _::l,_,_,_,_,h,_=>by simp [ZcM] at h
 | .psl _ _ _ _::l,_,_,_,_,h,_=>by simp [ZcM] at h
 | .elp _ _ _ _::l,_,_,_,_,h,_=>by simp [ZcM] at h
 | .map _::l,_,_,_,_,h,_=>by simp [ZcM] at h
 | .fn _ _ _::l,_,_,_,_,h,_=>by simp [ZcM] at h
 | .agg _::l,_,_,_,_,h,_=>by simp [ZcM] at h
 | .tup _::l,_,_,_,_,h,_=>by simp [ZcM] at h
 | .gptr _ _::l,_,_,_,_,h,_=>by simp [ZcM] at h
theorem Zuc {P:Program} {w:World} (k:IntKind) (x y:Int):(Builtin.max2 (.int k x) (.int k y)).run P w=.ok (.int k (Zmx x y)) w:=by
 simp [Builtin.max2,Zmx]
theorem Zub {P:Program} {w:World} {k:IntKind}:∀(l:List AV) (n:Int) (k':IntKind) (m:Int) (vs:List Value),ZcM Zmx k n l=some (k',m)→VRL ι N w l vs→
  (vs.foldlM Builtin.max2 (.int k n)).run P w=.ok (.int k' m) w
 | [],n,k',m,[],h,_=>by simp [ZcM] at h;obtain ⟨rfl,rfl⟩:=h;rfl
 | .int k2 n2::l,n,k',m,v::vs,h,hv=>by
  simp only [ZcM] at h
  split at h
  ·rename_i e;subst e
   simp only [VRL,VR] at hv
   obtain ⟨rfl,hv⟩:=hv
   simp only [List.foldlM_cons,Sem.run_bind,Zuc,Result.andThen_ok]
   exact Zub l _ k' m vs h hv
  ·cases h
 | [],_,_,_,_::_,_,hv=>by simp [VRL] at hv
 | .int _ _::_,_,_,_,[],_,hv=>by simp [VRL] at hv
 | .undef::l,_,_,_,_,h,_=>by simp [ZcM] at h
 | .bool _::l,_,_,_,_,h,_=>by simp [ZcM] at h
 | .str _::l,_,_,_,_,h,_=>by simp [ZcM] at h
 | .ro _ _::l,_,_,_,_,h,_=>by simp [ZcM] at h
 | .roe _ _ _::l,_,_,_,_,h,_=>by simp [ZcM] at h
 | .nilsl::l,_,_,_,_,h,_=>by simp [ZcM] at h
 | .nilp::l,_,_,_,_,h,_=>by simp [ZcM] at h
 | .ptr _ _::l,_,_,_,_,h,_=>by simp [ZcM] at h
 | .full _::l,_,_,_,_,h,_=>by simp [ZcM] at h
 | .psl _ _ _ _::l,_,_,_,_,h,_=>by simp [ZcM] at h
 | .elp _ _ _ _::l,_,_,_,_,h,_=>by simp [ZcM] at h
 | .map _::l,_,_,_,_,h,_=>by simp [ZcM] at h
 | .fn _ _ _::l,_,_,_,_,h,_=>by simp [ZcM] at h
 | .agg _::l,_,_,_,_,h,_=>by simp [ZcM] at h
 | .tup _::l,_,_,_,_,h,_=>by simp [ZcM] at h
 | .gptr _ _::l,_,_,_,_,h,_=>by simp [ZcM] at h
theorem Zm1 {f:Int→Int→Int} {l:List AV} {k:IntKind} {m:Int} (h:ZuO f l=some (k,m)):∃k0 n l',l=.int k0 n::l'∧ZcM f k0 n l'=some (k,m):=by
 cases l with
 | nil=>simp [ZuO] at h
 | cons a l=>cases a<;>simp [ZuO] at h;exact ⟨_,_,_,rfl,h⟩
theorem ZsK (T:Zgn E.P E.C) (R:Zcd E ι N h w) (hv:∀x,VR ι N w (av x) (ev x)) {b:Builtin} (hi:b=.append→ι nid=none) {args:Array Operand} {argTypes:Array TypeId} {o:Oper}
  (ho:o.op=.call { callee:=.builtin b,args,argTypes }) (H:Zdn E.C (.call { callee:=.builtin b,args,argTypes }) av h nid K=some r):∃v d,K v d=some r∧Res E ι N h w nid (execOp ev o) v d:=by
 simp only [Zdn] at H
 split at H
 ·rename_i x hx
  have hargs:args= #[x]:=by apply Array.ext';simpa using hx
  split at H
  ·rename_i t ht
   have htys:argTypes= #[t]:=by apply Array.ext';simpa using ht
   cases hs:ZeK (E.C.ty t).d with
   | false=>rw [hs] at H;simp at H
   | true=>
    rw [hs] at H;simp only [cond_true] at H
    obtain ⟨v,val,H,hvr,hrun⟩:=Zum R T hs (hv x) H
    refine ⟨v,[],H,Res.pure R (Zfs ho fun c=>?_) hvr⟩
    subst hargs htys
    simp [builtin,hrun]
  ·cases H
 ·rename_i sl x hx
  have hargs:args= #[sl,x]:=by apply Array.ext';simpa using hx
  split at H
  ·rename_i t1 t2 ht
   have htys:argTypes= #[t1,t2]:=by apply Array.ext';simpa using ht
   split at H
   ·rename_i e he
    cases hs:ZeK (E.C.ty t2).d with
    | false=>rw [hs] at H;simp at H
    | true=>
     rw [hs] at H;simp only [cond_true] at H
     obtain ⟨v,d,H,val,w',ι',hrun,hvr,L,R',h1,h2⟩:=ZxA T R (hi rfl) he hs (hv sl) (hv x) H
     refine ⟨v,d,H,val,w',ι',N,.inl (Zfs ho fun c=>?_),hvr,L,R',.inr ⟨h1,h2⟩,fun b hb=>.inl hb⟩
     subst hargs htys
     simp [builtin,hrun]
   ·cases H
  ·cases H
 ·split at H
  ·rename_i k n hf
   obtain ⟨k0,n0,l',hl,hf⟩:=Zm1 hf
   have hvl:=VRL.mapL hv args.toList
   rw [hl] at hvl
   cases hargs:args.toList with
   | nil=>rw [hargs] at hvl;simp [VRL] at hvl
   | cons y ys=>
    rw [hargs] at hvl
    simp only [List.map_cons,VRL,VR] at hvl
    refine ⟨_,[],H,Res.pure R (val:=.int k n) (Zfs ho fun c=>?_) (by simp only [VR])⟩
    have hm:(args.map ev).toList=.int k0 n0::ys.map ev:=by rw [Array.toList_map,hargs];simp [hvl.1]
    have:=Zt9 (P:=E.P) l' n0 k n (ys.map ev) hf hvl.2
    simp only [builtin,Builtin.min_,hm,Sem.run_bind,this];rfl
  ·cases H
 ·split at H
  ·rename_i k n hf
   obtain ⟨k0,n0,l',hl,hf⟩:=Zm1 hf
   have hvl:=VRL.mapL hv args.toList
   rw [hl] at hvl
   cases hargs:args.toList with
   | nil=>rw [hargs] at hvl;simp [VRL] at hvl
   | cons y ys=>
    rw [hargs] at hvl
    simp only [List.map_cons,VRL,VR] at hvl
    refine ⟨_,[],H,Res.pure R (val:=.int k n) (Zfs ho fun c=>?_) (by simp only [VR])⟩
    have hm:(args.map ev).toList=.int k0 n0::ys.map ev:=by rw [Array.toList_map,hargs];simp [hvl.1]
    have:=Zub (P:=E.P) l' n0 k n (ys.map ev) hf hvl.2
    simp only [builtin,Builtin.max_,hm,Sem.run_bind,this];rfl
  ·cases H
 ·cases H
theorem ZtY (R:Zcd E ι N h w) (hv:∀x,VR ι N w (av x) (ev x)) {x:Operand} {o:Oper} (ho:o.op=.move x∨o.op=.assign x)
  (H:K (av x) []=some r):∃v d,K v d=some r∧Res E ι N h w nid (execOp ev o) v d:=by
 refine ⟨_,_,H,Res.pure R (val:=ev x) ?_ (hv x)⟩
 rcases ho with ho | ho<;>simp [execOp,ho]
def ZvT:Op→Bool
 | .makeMap _ _=>true
 | .alloc _ | .box _ _ | .buildSlice _ _ _ | .makeSlice _ _ _=>true
 | .call { callee:=.builtin .append,.. }=>true
 | _=>false
theorem Ztf (T:Zgn E.P E.C) (R:Zcd E ι N h w) (hv:∀x,VR ι N w (av x) (ev x)) {o:Oper} (hi:ZvT o.op=true→ι nid=none)
  (H:Zdn E.C o.op av h nid K=some r):∃v d,K v d=some r∧Res E ι N h w nid (execOp ev o) v d:=by
 generalize hop:o.op=op at H hi
 cases op with
 | move x=>exact ZtY R hv (.inl hop) (by simpa only [Zdn] using H)
 | assign x=>exact ZtY R hv (.inr hop) (by simpa only [Zdn] using H)
 | pick c a b=>exact Zw8 R hv hop H
 | alloc t=>exact ZvR T R (hi rfl) hop H
 | box t x=>exact op_box R hv (hi rfl) hop H
 | build t ps=>exact ZvP T R hv hop H
 | buildSlice t n ps=>exact ZnI T R hv (hi rfl) hop H
 | load t p=>exact Zw9 T R hv hop H
 | store t p x=>exact ZvL T R hv hop H
 | nilCheck x=>exact ZqC R hv hop H
 | binOp op t x y u=>exact ZvQ T R hv hop H
 | unOp op t x=>exact Zw7 T R hv hop H
 | convert t u x=>exact ZsJ T R hv hop H
 | makeFunc f a b=>exact ZqD R hv hop H
 | makeSlice t l c=>exact ZoQ T R hv (hi rfl) hop H
 | slice t x lo hi mx=>exact ZvM T R hv hop H
 | fieldAddr t x f=>exact ZoS T R hv hop H
 | field t x f=>exact ZvO T R hv hop H
 | indexAddr t x i=>exact ZoR T R hv hop H
 | index t x i=>exact ZvN T R hv hop H
 | extract x i=>exact ZsI R hv hop H
 | makeMap t x=>exact ZsH T R (hi rfl) hop H
 | mapUpdate t m k x=>exact ZoP T R hv hop H
 | lookup t x k ok=>exact ZtZ T R hv hop H
 | call c=>
  obtain ⟨cal,args,tys⟩:=c
  cases cal with
  | builtin b=>exact ZsK T R hv (fun e=>hi (by subst e;rfl)) hop H
  | _=>simp [Zdn] at H
 | _=>simp [Zdn] at H
end
end Ev
end
section
namespace Ev
open Go
structure M.Ext (m m':M):Prop where
 ren:∀j i,ZeE m.ren j=some i→ZeE m'.ren j=some i
 add:∃l,m'.add=l++m.add
 frz:∀i,i∈m.frz→i∈m'.frz
theorem M.Ext.refl (m:M):m.Ext m:=⟨fun _ _ h=>h,⟨[],rfl⟩,fun _ h=>h⟩
theorem M.Ext.trans {a b c:M} (h:a.Ext b) (k:b.Ext c):a.Ext c:=
 ⟨fun j i e=>k.ren j i (h.ren j i e),by obtain ⟨l,e⟩:=h.add;obtain ⟨l',e'⟩:=k.add;exact ⟨l'++l,by rw [e',e,List.append_assoc]⟩,fun i e=>k.frz i (h.frz i e)⟩
theorem M.ref_ext {m m':M} {j id:Nat} (h:m.ref j id=some m'):m.Ext m'∧ZeE m'.ren j=some id∧m'.ds=m.ds∧m'.add=m.add∧m'.frz=m.frz∧m'.nid=m.nid:=by
 unfold M.ref at h
 split at h
 ·rename_i i hi
  cases hb:Nat.beq i id with
  | false=>rw [hb] at h;simp at h
  | true=>
   rw [hb] at h;simp only [cond_true,Option.some.injEq] at h;subst h
   exact ⟨.refl m,by rw [hi,Nat.eq_of_beq_eq_true hb],rfl,rfl,rfl,rfl⟩
 ·rename_i hi
  cases hb:Zho m.ren id with
  | true=>rw [hb] at h;simp at h
  | false=>
   rw [hb] at h;simp only [cond_false,Option.some.injEq] at h;subst h
   refine ⟨⟨fun k i e=>?_,⟨[],rfl⟩,fun _ h=>h⟩,by simp [ZeE],rfl,rfl,rfl,rfl⟩
   simp only [ZeE]
   cases hk:Nat.beq j k with
   | false=>simpa using e
   | true=>have:=Nat.eq_of_beq_eq_true hk;subst this;rw [hi] at e;cases e
mutual
theorem Zt8 {h:Nat→Ob} {ots:Nat→OT}:∀(tp:Tp) (a:AV) (m m':M),Tp.mt h ots tp a m=some m'→m.Ext m'
 | .undef,a,m,m',H=>by simp only [Tp.mt,Option.some.injEq] at H;subst H;exact .refl m
 | .sc d,a,m,m',H=>by
  have data:∀x,m.Ext (m.data x):=fun x=>⟨fun _ _ h=>h,⟨[],rfl⟩,fun _ h=>h⟩
  cases d with
  | int k=>
   cases a<;>simp only [Tp.mt] at H<;>try (cases H;done)
   split at H
   ·cases H;exact data _
   ·cases H
  | bool=>
   cases a<;>simp only [Tp.mt] at H<;>try (cases H;done)
   cases H;exact data _
  | str=>
   cases a<;>simp only [Tp.mt] at H<;>try (cases H;done)
   cases H;exact data _
  | list t=>
   simp only [Tp.mt] at H
   split at H
   ·cases H;exact ⟨fun _ _ h=>h,⟨[],rfl⟩,fun i hi=>by simp [ZdE,hi]⟩
   ·cases H
  | map k v=>simp only [Tp.mt] at H;cases H
 | .full j,a,m,m',H=>by
  cases a<;>simp only [Tp.mt] at H<;>try (cases H;done)
  case full id=>exact (M.ref_ext H).1
  case nilsl=>
   split at H
   ·obtain ⟨h1,h2,h3,h4,h5,h6⟩:=M.ref_ext H
    exact ⟨fun j i e=>h1.ren j i e,by rw [h4];exact ⟨[_],rfl⟩,fun i hi=>h1.frz i hi⟩
   ·cases H
 | .ptr j o,a,m,m',H=>by
  cases a<;>simp only [Tp.mt] at H<;>try (cases H;done)
  rename_i id o'
  cases hb:Nat.beq o o' with
  | false=>rw [hb] at H;simp at H
  | true=>rw [hb] at H;exact (M.ref_ext H).1
 | .map j,a,m,m',H=>by
  cases a<;>simp only [Tp.mt] at H<;>try (cases H;done)
  exact (M.ref_ext H).1
 | .nilp,a,m,m',H=>by
  cases a<;>simp only [Tp.mt] at H<;>try (cases H;done)
  cases H;exact .refl _
 | .cint k n,a,m,m',H=>by
  cases a<;>simp only [Tp.mt] at H<;>try (cases H;done)
  split at H
  ·split at H
   ·cases H;exact .refl _
   ·cases H
  ·cases H
 | .cstr s,a,m,m',H=>by
  cases a<;>simp only [Tp.mt] at H<;>try (cases H;done)
  split at H
  ·cases H;exact .refl _
  ·cases H
 | .cbool s,a,m,m',H=>by
  cases a<;>simp only [Tp.mt] at H<;>try (cases H;done)
  split at H
  ·cases H;exact .refl _
  ·cases H
 | .gptr g o,a,m,m',H=>by
  cases a<;>simp only [Tp.mt] at H<;>try (cases H;done)
  rename_i g' o'
  cases hb:(Nat.beq g g'&&Nat.beq o o') with
  | false=>rw [hb] at H;simp at H
  | true=>rw [hb] at H;simp only [cond_true,Option.some.injEq] at H;subst H;exact .refl _
 | .fn f x y,a,m,m',H=>by
  cases a<;>simp only [Tp.mt] at H<;>try (cases H;done)
  rename_i f' x' y'
  cases hb:Nat.beq f f' with
  | false=>rw [hb] at H;simp at H
  | true=>
   rw [hb] at H;simp only [cond_true] at H
   split at H
   ·rename_i m1 hm1
    exact (Zga x x' m m1 hm1).trans (Zga y y' m1 m' H)
   ·cases H
 | .agg l,a,m,m',H=>by
  cases a<;>simp only [Tp.mt] at H<;>try (cases H;done)
  exact Zga l _ m m' H
 | .tup l,a,m,m',H=>by
  cases a<;>simp only [Tp.mt] at H<;>try (cases H;done)
  exact Zga l _ m m' H
theorem Zga {h:Nat→Ob} {ots:Nat→OT}:∀(tps:List Tp) (as:List AV) (m m':M),Tp.mts h ots tps as m=some m'→m.Ext m'
 | [],as,m,m',H=>by
  cases as<;>simp only [Tp.mts] at H<;>try (cases H;done)
  cases H;exact .refl _
 | tp::tps,as,m,m',H=>by
  cases as<;>simp only [Tp.mts] at H<;>try (cases H;done)
  split at H
  ·rename_i m1 hm1
   exact (Zt8 tp _ m m1 hm1).trans (Zga tps _ m1 m' H)
  ·cases H
end
structure Img (E:Env) (ι:Nat→Option Value) (N:Nat→Prop) (h:Nat→Ob) (w:World) (mf:M) (ι2 ι':Nat→Option Value) (N':Nat→Prop):Prop where
 rep:Zcd E ι N h w
 ren:∀j i,ZeE mf.ren j=some i→ι' j=ι2 i
 old:∀i v,ι i=some v→ι2 i=some v
 add:∀x,x∈mf.add→ι2 x.1=some (.slice none 0 0)
 ro:∀b,N b→N' b
 frz:∀i v b,i∈mf.frz→ι i=some v→ZbF v=some b→N' b
section
variable {E:Env} {ι:Nat→Option Value} {N:Nat→Prop} {h:Nat→Ob} {w:World} {mf:M} {ι2 ι':Nat→Option Value} {N':Nat→Prop} {ots:Nat→OT}
theorem ZvC (I:Img E ι N h w mf ι2 ι' N') {t:FT} {a:AV} {xs:List (El t)} {ids:List Nat} (hr:Ztp h t a=some (xs,ids)) (hm:∀i,i∈ids→i∈mf.frz) {v:Value} (hv:VR ι N w a v) :
  RoG (VRc N' w) N' w t xs v:=by
 unfold Ztp at hr
 split at hr
 ·rename_i t' ys
  split at hr
  ·rename_i e;subst e;cases hr
   simp only [VR] at hv
   exact hv.mono (fun _ _=>VRc.mono I.ro fun _ _=>rfl) I.ro fun _ _=>rfl
  ·cases hr
 ·cases hr;simp only [VR] at hv;exact ⟨none,0,hv,.inl rfl⟩
 ·rename_i id
  split at hr
  ·rename_i t' ys hx
   split at hr
   ·rename_i e;subst e;cases hr
    simp only [VR] at hv
    exact I.rep.reads hx hv.1 I.ro fun b hb=>I.frz id v b (hm id (by simp)) hv.1 hb
   ·cases hr
  ·cases hr
 ·rename_i id sz o n
  split at hr
  ·rename_i t' ys hx
   split at hr
   ·rename_i e;subst e
    cases hsz:Nat.beq sz (ZaI t') with
    | false=>rw [hsz] at hr;simp at hr
    | true=>
     rw [hsz] at hr;simp only [cond_true,Option.some.injEq,Prod.mk.injEq] at hr
     obtain ⟨rfl,rfl⟩:=hr
     have hsz':sz=ZaI t':=Nat.eq_of_beq_eq_true hsz
     simp only [VR] at hv
     obtain ⟨a,n',cap,hι,hon,a',cap',rfl,hcp',hcase⟩:=hv
     have hread:=I.rep.reads hx hι I.ro fun b hb=>I.frz id _ b (hm id (by simp)) hι hb
     obtain ⟨a2,cap2,e1,hr2⟩:=hread
     simp only [Value.slice.injEq] at e1
     obtain ⟨rfl,rfl,rfl⟩:=e1
     have hlen:((ys.drop o).take n).length=n:=by simp;omega
     by_cases h0:n=0
     ·subst h0;exact ⟨a',cap',by simp,.inl (by simp)⟩
     ·rcases hcase with h1 | ⟨b,p,rfl,rfl⟩
      ·exact absurd h1 h0
      ·rcases hr2 with h1 | ⟨b',p',⟨e,hcp⟩,hN,c,T0,fz,hheap,hel⟩
       ·subst h1;simp at hon;omega
       ·simp at e;obtain ⟨rfl,rfl⟩:=e
        refine ⟨_,cap',by rw [hlen],.inr ⟨b,p+o*sz,⟨rfl,by rw [hlen];exact hcp'⟩,hN,c,T0,fz,hheap,fun j x hj=>?_⟩⟩
        rw [List.getElem?_take] at hj
        split at hj
        ·rw [List.getElem?_drop] at hj
         have:=hel (o+j) x hj
         rw [Nat.add_mul,←Nat.add_assoc,←hsz'] at this
         rw [←hsz']
         exact this
        ·cases hj
   ·cases hr
  ·cases hr
 ·cases hr
mutual
theorem Zj2 (I:Img E ι N h w mf ι2 ι' N'):∀(tp:Tp) (a:AV) (m m':M) (v:Value),Tp.mt h ots tp a m=some m'→m'.Ext mf→VR ι N w a v→
  m.Ext m'∧∃new av,m'.ds=new.reverse++m.ds∧(∀rest,Tp.inst (fun j=>j) tp (new++rest)=(av,rest))∧VR ι' N' w av v
 | .undef,a,m,m',v,H,X,hv=>by
  simp only [Tp.mt,Option.some.injEq] at H;subst H
  exact ⟨.refl m,[],.undef,rfl,fun _=>rfl,by simp only [VR]⟩
 | .sc d,a,m,m',v,H,X,hv=>by
  cases d with
  | int k=>
   cases a<;>simp only [Tp.mt] at H<;>try (cases H;done)
   rename_i k' n
   split at H
   ·rename_i e;subst e;cases H
    simp only [VR] at hv
    exact ⟨⟨fun _ _ h=>h,⟨[],rfl⟩,fun _ h=>h⟩,[⟨.int k,n⟩],.int k n,rfl,fun _=>rfl,by simpa only [VR] using hv⟩
   ·cases H
  | bool=>
   cases a<;>simp only [Tp.mt] at H<;>try (cases H;done)
   rename_i b
   cases H;simp only [VR] at hv
   exact ⟨⟨fun _ _ h=>h,⟨[],rfl⟩,fun _ h=>h⟩,[⟨.bool,b⟩],.bool b,rfl,fun _=>rfl,by simpa only [VR] using hv⟩
  | str=>
   cases a<;>simp only [Tp.mt] at H<;>try (cases H;done)
   rename_i b
   cases H;simp only [VR] at hv
   exact ⟨⟨fun _ _ h=>h,⟨[],rfl⟩,fun _ h=>h⟩,[⟨.str,b⟩],.str b,rfl,fun _=>rfl,by simpa only [VR] using hv⟩
  | list t=>
   simp only [Tp.mt] at H
   split at H
   ·rename_i xs ids hr
    cases H
    refine ⟨⟨fun _ _ h=>h,⟨[],rfl⟩,fun i hi=>by simp [ZdE,hi]⟩,[⟨.list t,xs⟩],.ro t xs,rfl,fun _=>rfl,?_⟩
    simp only [VR]
    exact ZvC I hr (fun i hi=>X.frz i (by simp [ZdE,hi])) hv
   ·cases H
  | map k v=>simp only [Tp.mt] at H;cases H
 | .full j,a,m,m',v,H,X,hv=>by
  cases a<;>simp only [Tp.mt] at H<;>try (cases H;done)
  case full id=>
   obtain ⟨h1,h2,h3,h4,h5,h6⟩:=M.ref_ext H
   simp only [VR] at hv
   exact ⟨h1,[],.full j,by rw [h3];rfl,fun _=>rfl,by simp only [VR];exact ⟨(I.ren j id (X.ren j id h2)).trans (I.old id v hv.1),hv.2⟩⟩
  case nilsl=>
   split at H
   ·rename_i t ht
    obtain ⟨h1,h2,h3,h4,h5,h6⟩:=M.ref_ext H
    simp only [VR] at hv;subst hv
    refine ⟨⟨fun j i e=>h1.ren j i e,?_,fun i hi=>h1.frz i hi⟩,[],.full j,by rw [h3];rfl,fun _=>rfl,?_⟩
    ·rw [h4];exact ⟨[_],rfl⟩
    ·simp only [VR]
     refine ⟨(I.ren j _ (X.ren j _ h2)).trans ?_,none,0,0,rfl⟩
     obtain ⟨l,e⟩:=X.add
     exact I.add (m.nid,.arr t []) (by rw [e,h4];simp)
   ·cases H
 | .ptr j o,a,m,m',v,H,X,hv=>by
  cases a<;>simp only [Tp.mt] at H<;>try (cases H;done)
  rename_i id o'
  cases hb:Nat.beq o o' with
  | false=>rw [hb] at H;simp at H
  | true=>
   rw [hb] at H;simp only [cond_true] at H
   have:=Nat.eq_of_beq_eq_true hb;subst this
   obtain ⟨h1,h2,h3,h4,h5,h6⟩:=M.ref_ext H
   simp only [VR] at hv
   obtain ⟨b,p,e1,e2⟩:=hv
   exact ⟨h1,[],.ptr j o,by rw [h3];rfl,fun _=>rfl,by simp only [VR];exact ⟨b,p,(I.ren j id (X.ren j id h2)).trans (I.old id _ e1),e2⟩⟩
 | .map j,a,m,m',v,H,X,hv=>by
  cases a<;>simp only [Tp.mt] at H<;>try (cases H;done)
  rename_i id
  obtain ⟨h1,h2,h3,h4,h5,h6⟩:=M.ref_ext H
  simp only [VR] at hv
  exact ⟨h1,[],.map j,by rw [h3];rfl,fun _=>rfl,by simp only [VR];exact ⟨(I.ren j id (X.ren j id h2)).trans (I.old id v hv.1),hv.2⟩⟩
 | .nilp,a,m,m',v,H,X,hv=>by
  cases a<;>simp only [Tp.mt] at H<;>try (cases H;done)
  cases H;simp only [VR] at hv
  exact ⟨.refl _,[],.nilp,rfl,fun _=>rfl,by simpa only [VR] using hv⟩
 | .cint k n,a,m,m',v,H,X,hv=>by
  cases a<;>simp only [Tp.mt] at H<;>try (cases H;done)
  split at H
  ·rename_i e;subst e
   split at H
   ·rename_i e;subst e;cases H
    simp only [VR] at hv
    exact ⟨.refl _,[],.int k n,rfl,fun _=>rfl,by simpa only [VR] using hv⟩
   ·cases H
  ·cases H
 | .cstr s,a,m,m',v,H,X,hv=>by
  cases a<;>simp only [Tp.mt] at H<;>try (cases H;done)
  split at H
  ·rename_i e;subst e;cases H
   simp only [VR] at hv
   exact ⟨.refl _,[],.str s,rfl,fun _=>rfl,by simpa only [VR] using hv⟩
  ·cases H
 | .cbool s,a,m,m',v,H,X,hv=>by
  cases a<;>simp only [Tp.mt] at H<;>try (cases H;done)
  split at H
  ·rename_i e;subst e;cases H
   simp only [VR] at hv
   exact ⟨.refl _,[],.bool s,rfl,fun _=>rfl,by simpa only [VR] using hv⟩
  ·cases H
 | .gptr g o,a,m,m',v,H,X,hv=>by
  cases a<;>simp only [Tp.mt] at H<;>try (cases H;done)
  rename_i g' o'
  cases hb:(Nat.beq g g'&&Nat.beq o o') with
  | false=>rw [hb] at H;simp at H
  | true=>
   rw [hb] at H;simp only [cond_true,Option.some.injEq] at H;subst H
   simp only [Bool.and_eq_true] at hb
   have e1:=Nat.eq_of_beq_eq_true hb.1
   have e2:=Nat.eq_of_beq_eq_true hb.2
   subst e1 e2
   simp only [VR] at hv
   exact ⟨.refl _,[],.gptr g o,rfl,fun _=>rfl,by simpa only [VR] using hv⟩
 | .fn f x y,a,m,m',v,H,X,hv=>by
  cases a<;>simp only [Tp.mt] at H<;>try (cases H;done)
  rename_i f' x' y'
  cases hb:Nat.beq f f' with
  | false=>rw [hb] at H;simp at H
  | true=>
   rw [hb] at H;simp only [cond_true] at H
   have:=Nat.eq_of_beq_eq_true hb;subst this
   split at H
   ·rename_i m1 hm1
    simp only [VR] at hv
    obtain ⟨fs,cs,rfl,hv1,hv2⟩:=hv
    have X1:m1.Ext m':=(Zga y y' m1 m' H)
    obtain ⟨E1,n1,a1,d1,i1,r1⟩:=Ze4 I x x' m m1 _ hm1 (X1.trans X) hv1
    obtain ⟨E2,n2,a2,d2,i2,r2⟩:=Ze4 I y y' m1 m' _ H X hv2
    refine ⟨E1.trans E2,n1++n2,.fn f a1 a2,by rw [d2,d1];simp,fun rest=>?_,by simp only [VR];exact ⟨fs,cs,rfl,r1,r2⟩⟩
    simp only [Tp.inst,List.append_assoc,i1,i2]
   ·cases H
 | .agg l,a,m,m',v,H,X,hv=>by
  cases a<;>simp only [Tp.mt] at H<;>try (cases H;done)
  rename_i l'
  simp only [VR] at hv
  obtain ⟨vs,rfl,hv1,hv2⟩:=hv
  obtain ⟨E1,n1,a1,d1,i1,r1⟩:=Ze4 I l l' m m' _ H X hv1
  exact ⟨E1,n1,.agg a1,d1,fun rest=>by simp only [Tp.inst,i1],by simp only [VR];exact ⟨vs,rfl,r1,hv2⟩⟩
 | .tup l,a,m,m',v,H,X,hv=>by
  cases a<;>simp only [Tp.mt] at H<;>try (cases H;done)
  rename_i l'
  simp only [VR] at hv
  obtain ⟨vs,rfl,hv1⟩:=hv
  obtain ⟨E1,n1,a1,d1,i1,r1⟩:=Ze4 I l l' m m' _ H X hv1
  exact ⟨E1,n1,.tup a1,d1,fun rest=>by simp only [Tp.inst,i1],by simp only [VR];exact ⟨vs,rfl,r1⟩⟩
theorem Ze4 (I:Img E ι N h w mf ι2 ι' N'):∀(tps:List Tp) (as:List AV) (m m':M) (vs:List Value),Tp.mts h ots tps as m=some m'→m'.Ext mf→VRL ι N w as vs→
  m.Ext m'∧∃new avs,m'.ds=new.reverse++m.ds∧(∀rest,Tp.insts (fun j=>j) tps (new++rest)=(avs,rest))∧VRL ι' N' w avs vs
 | [],as,m,m',vs,H,X,hv=>by
  cases as<;>simp only [Tp.mts] at H<;>try (cases H;done)
  cases H
  cases vs with
  | nil=>exact ⟨.refl _,[],[],rfl,fun _=>rfl,by simp only [VRL]⟩
  | cons v vs=>simp [VRL] at hv
 | tp::tps,as,m,m',vs,H,X,hv=>by
  cases as<;>simp only [Tp.mts] at H<;>try (cases H;done)
  rename_i a as
  split at H
  ·rename_i m1 hm1
   cases vs with
   | nil=>simp [VRL] at hv
   | cons v vs=>
    simp only [VRL] at hv
    have X1:m1.Ext m':=(Zga tps as m1 m' H)
    obtain ⟨E1,n1,a1,d1,i1,r1⟩:=Zj2 I tp a m m1 v hm1 (X1.trans X) hv.1
    obtain ⟨E2,n2,a2,d2,i2,r2⟩:=Ze4 I tps as m1 m' vs H X hv.2
    refine ⟨E1.trans E2,n1++n2,a1::a2,by rw [d2,d1];simp,fun rest=>?_,by simp only [VRL];exact ⟨r1,r2⟩⟩
    simp only [Tp.insts,List.append_assoc,i1,i2]
  ·cases H
end
end
end Ev
end
section
namespace Ev
open Go
theorem Ze3 {α β:Type} (b:Bool) (x:Option α) (k:α→Option β):(need b x).bind k=need b (x.bind k):=by cases b<;>rfl
theorem Zcx {α β:Type} (b:Bool) (x y:Option α) (k:α→Option β):(cond b x y).bind k=cond b (x.bind k) (y.bind k):=by cases b<;>rfl
section
variable {ρ:Type}
theorem Zsj (op:BinOp) (i:Bool) (x y:AV) (K:AV→Option ρ):Zxy op i x y K=(Zxy op i x y some).bind K:=by
 unfold Zxy
 repeat' split
 all_goals first
  | rfl
  | (simp only [Ze3,Zcx,Option.bind_some,Option.bind_none])
theorem Zjv (s:Str) (lo hi:Option AV) (K:AV→Option ρ):Zg4 s lo hi K=(Zg4 s lo hi some).bind K:=by
 unfold Zg4
 repeat' split
 all_goals first
  | rfl
  | (simp only [Ze3,Zcx,Option.bind_some,Option.bind_none])
theorem Zkw (t:FT) (s:List (El t)) (lo hi:Option AV) (K:AV→Option ρ):ZiL t s lo hi K=(ZiL t s lo hi some).bind K:=by
 unfold ZiL
 repeat' split
 all_goals first
  | rfl
  | (simp only [Ze3,Zcx,Option.bind_some,Option.bind_none])
theorem Zjw (id sz n:Nat) (lo hi:Option AV) (K:AV→Option ρ):Zg5 id sz n lo hi K=(Zg5 id sz n lo hi some).bind K:=by
 unfold Zg5
 repeat' split
 all_goals first
  | rfl
  | (simp only [Ze3,Zcx,Option.bind_some,Option.bind_none])
theorem ZrF (h:Nat→Ob) (K:AV→Option ρ) (i:Bool) (x:AV):Zxj h K i x=(Zxj h some i x).bind K:=by
 unfold Zxj
 repeat' split
 all_goals first
  | rfl
  | (simp only [Ze3,Zcx,Option.bind_some,Option.bind_none])
def pr (v:AV) (d:ZbC):Option (AV×ZbC):=some (v,d)
def on (K:AV→ZbC→Option ρ) (p:AV×ZbC):Option ρ:=K p.1 p.2
theorem ZwB (h:Nat→Ob) (nid:Nat) (ft:Option FT) (s x:AV) (K:AV→ZbC→Option ρ):ZxB h nid ft s x K=(ZxB h nid ft s x pr).bind (on K):=by
 unfold ZxB
 repeat' split
 all_goals first
  | rfl
  | (simp only [Ze3,Zcx,Option.bind_some,Option.bind_none,pr,on])
theorem Zwp (C:Ctx) (o:Op) (av:Operand→AV) (h:Nat→Ob) (nid:Nat) (K:AV→ZbC→Option ρ) :
  Zdn C o av h nid K=(Zdn C o av h nid pr).bind (on K):=by
 cases o
 case binOp op t x y u=>
  simp only [Zdn]
  split
  ·repeat' split
   all_goals rfl
  ·rw [Zsj,Zsj (K:=fun v=>pr v [])]
   cases Zxy op (C.ty t).d.isBool (av x) (av y) some<;>rfl
 case call c=>
  obtain ⟨cal,args,tys⟩:=c
  cases cal<;>simp only [Zdn]<;>try rfl
  split
  ·split
   ·rw [Zcx,ZrF,ZrF (K:=fun v=>pr v [])]
    cases Zxj h some _ _<;>rfl
   ·rfl
  ·split
   ·split
    ·rw [Zcx,ZwB];rfl
    ·rfl
   ·rfl
  ·split<;>rfl
  ·split<;>rfl
  ·rfl
 case slice t x lo hi mx=>
  cases mx with
  | some m=>rfl
  | none=>
   simp only [Zdn]
   split
   ·split
    ·rw [Zjv,Zjv (K:=fun v=>pr v [])]
     cases Zg4 _ _ _ some<;>rfl
    ·rfl
   ·rw [Zcx]
    congr 1
    split
    ·rw [Zcx,Zkw,Zkw (K:=fun v=>pr v [])]
     cases ZiL _ _ _ _ some<;>rfl
    ·split
     ·rw [Zcx,Zjw,Zjw (K:=fun v=>pr v [])]
      cases Zg5 _ _ _ _ _ some<;>rfl
     ·rfl
    ·rfl
   ·rfl
 case makeFunc f a b=>cases f<;>rfl
 case makeMap t x=>
  cases x with
  | some x=>rfl
  | none=>
   simp only [Zdn]
   split
   ·split
    ·rw [Zcx];rfl
    ·rfl
   ·rfl
 all_goals
  try simp only [Zdn]
  try simp only [Zcx]
  try (congr 1;done)
  try congr 1
  try (repeat' split)
  all_goals first
   | rfl
   | (simp only [Ze3,Zcx,Option.bind_some,Option.bind_none,pr,on];done)
   | trace_state
end
end Ev
end
section
namespace Ev
open Go
theorem Zha (d:ZbC):Za2 d=d.map (·.1):=by
 induction d with
 | nil=>rfl
 | cons x d ih=>obtain ⟨i,o⟩:=x;simp [Za2,ih]
theorem ZiE:∀(d:ZbC) {H h:Nat→Ob} {k:Nat},H k=h k→Zd9 H d k=Zd9 h d k
 | [],_,_,_,e=>e
 | (i,o)::d,H,h,k,e=>by
  simp only [Zd9]
  refine ZiE d ?_
  by_cases ek:k=i
  ·subst ek;simp [upd]
  ·simp [upd,ek,e]
theorem ZdM:∀(d:ZbC) {h:Nat→Ob} {k:Nat},k∉Za2 d→Zd9 h d k=h k
 | [],_,_,_=>rfl
 | (i,o)::d,h,k,e=>by
  simp only [Za2,List.mem_cons,not_or] at e
  simp only [Zd9]
  rw [ZdM d e.2]
  simp [upd,e.1]
theorem Znp:∀(d:ZbC) {H h:Nat→Ob} {k:Nat},k∈Za2 d→Zd9 H d k=Zd9 h d k
 | [],_,_,_,e=>by simp [Za2] at e
 | (i,o)::d,H,h,k,e=>by
  simp only [Zd9]
  by_cases hk:k∈Za2 d
  ·exact Znp d hk
  ·simp only [Za2,List.mem_cons,hk,or_false] at e
   subst e
   rw [ZdM d hk,ZdM d hk]
   simp [upd]
structure Zvs (E:Env) (ι:Nat→Option Value) (N:Nat→Prop) (h:Nat→Ob) (w:World) (nid:Nat) (v:AV) (d:ZbC) (val:Value) (w':World) (ι':Nat→Option Value) (N':Nat→Prop):Prop where
 vr:VR ι' N' w' v val
 later:ZcE ι N w ι' N' w'
 rep:Zcd E ι' N' (Zd9 h d) w'
 new:∀k,ι' k=ι k∨(nid≤k∧k∈Za2 d)
 bound:∀b,N' b→N b∨¬E.keep b
def OpR (P:Program) (s:Sem Next) (w:World) (R:Value→World→Prop):Prop:=
 (∃val w',(s.run P w=.ok (.value val) w'∨(s.run P w=.ok .skip w'∧val=undef))∧R val w')∨
 (∃f args,s.run P w=.ok (.enter f args) w∧Calls P f args w fun e w''=>∃val,e=.returned val∧R val w'')∨
 (∃row args w',s.run P w=.ok (.row row args) w'∧Rows P row args w' R)
theorem OpR.mono {P:Program} {s:Sem Next} {w:World} {R R':Value→World→Prop} (h:OpR P s w R) (hr:∀v w',R v w'→R' v w'):OpR P s w R':=by
 rcases h with ⟨val,w',h1,h2⟩ | ⟨f,args,h1,h2⟩ | ⟨row,args,w',h1,h2⟩
 ·exact .inl ⟨val,w',h1,hr _ _ h2⟩
 ·exact .inr (.inl ⟨f,args,h1,Calls.mono h2 fun e w'' ⟨val,e1,e2⟩=>⟨val,e1,hr _ _ e2⟩⟩)
 ·exact .inr (.inr ⟨row,args,w',h1,Rows.mono h2 hr⟩)
theorem OpR.wp {P:Program} {o:Oper} {a:Act} {w:World} {next:Act→World→Prop} {Q:Exit→Act→World→Prop} (h:OpR P (execOp a.eval o) w fun v w'=>next (a.put o.dst v) w') :
  o.wp P a w next Q:=by
 unfold Oper.wp
 rcases h with ⟨val,w',h1,h2⟩ | ⟨f,args,h1,h2⟩ | ⟨row,args,w',h1,h2⟩
 ·rcases h1 with h1 | ⟨h1,rfl⟩<;>rw [h1]<;>exact h2
 ·rw [h1]
  refine Calls.mono h2 fun e w'' ⟨val,e1,e2⟩=>?_
  subst e1;exact e2
 ·rw [h1];exact h2
section
variable {E:Env} {ι:Nat→Option Value} {N:Nat→Prop} {h:Nat→Ob} {w:World} {nid:Nat} {s:Sem Next} {v:AV} {d:ZbC}
theorem Zcd.blk_lt (R:Zcd E ι N h w) {i:Nat} {u:Value} (hd:h i≠.dead) (hu:ι i=some u) {b:Nat} (hb:ZbF u=some b):own N E.keep b∧b<w.heap.size:=by
 obtain ⟨u',hu',ho⟩:=R.ob i hd
 rw [hu] at hu';cases hu'
 exact ho.blk hd hb
theorem Res.opR (R0:Zcd E ι N h w) (R:Res E ι N h w nid s v d) (hi:nid∈d.map (·.1)→ι nid=none):OpR E.P s w fun val w'=>∃ι' N',Zvs E ι N h w nid v d val w' ι' N':=by
 obtain ⟨val,w',ι',N',h1,h2,h3,h4,h5,h6⟩:=R
 refine .inl ⟨val,w',h1,ι',N',h2,h3,h4,fun k=>?_,fun b hb=>(h6 b hb).imp id fun ⟨i,u,e1,e2,e3⟩=>(R0.blk_lt e3 e1 e2).1.2⟩
 rcases h5 with rfl | ⟨⟨u,rfl⟩,hm⟩
 ·exact .inl rfl
 ·by_cases e:k=nid
  ·subst e;exact .inr ⟨Nat.le_refl _,by rw [Zha];exact hm⟩
  ·exact .inl (by simp [updL,e])
def Zq8 (E:Env) (ι:Nat→Option Value) (h H:Nat→Ob) (b:Nat):Prop:=
 E.keep b∨∃i v,h i≠.dead∧H i=.dead∧ι i=some v∧ZbF v=some b
def Env.part (E:Env) (ι:Nat→Option Value) (h H:Nat→Ob) (w:World):Env:=⟨E.P,E.C,w,Zq8 E ι h H⟩
theorem Zcd.part (R:Zcd E ι N h w) {H:Nat→Ob} (hH:∀i,H i=h i∨H i=.dead):Zcd (E.part ι h H w) ι N H w:=by
 have live:∀{i},H i≠.dead→H i=h i:=fun {i} hi=>(hH i).resolve_right hi
 refine ⟨fun i hi=>?_,fun i j b e hi hj=>R.sep i j b e (live hi ▸ hi) (live hj ▸ hj),R.nlt,fun b hb=>?_,⟨rfl,rfl,rfl,Nat.le_refl _,fun _ _=>rfl⟩,R.glob⟩
 ·have hi':h i≠.dead:=live hi ▸ hi
  obtain ⟨u,hu,ho⟩:=R.ob i hi'
  refine ⟨u,hu,?_⟩
  rw [live hi]
  have key:∀b,ZbF u=some b→¬Zq8 E ι h H b:=by
   rintro b hb (hk | ⟨j,x,h1,h2,h3,h4⟩)
   ·exact (ho.blk hi' hb).1.2 hk
   ·have e:i≠j:=by rintro rfl;exact hi h2
    exact R.sep i j b e hi' h1 (by rw [hu];exact hb) (by rw [h3];exact h4)
  generalize h i=o at *
  cases o with
  | dead=>trivial
  | box cs=>
   obtain ⟨b,o,c,T,rfl,h1,h2,h3⟩:=ho
   exact ⟨b,o,c,T,rfl,⟨h1.1,key b rfl⟩,h2,h3⟩
  | arr t xs=>
   obtain ⟨a,cap,rfl,hle,ho⟩:=ho
   refine ⟨a,cap,rfl,hle,?_⟩
   rcases ho with rfl | ⟨b,c,T,rfl,h1,h2,h3,h4⟩
   ·exact .inl rfl
   ·by_cases hc:cap=0
    ·exact .inl hc
    ·exact .inr ⟨b,c,T,rfl,⟨h1.1,key b (by simp [ZbF,hc])⟩,h2,h3,h4⟩
  | map kt vt es=>
   obtain ⟨r,ents,clock,rfl,h1,h2,h3,h4⟩:=ho
   exact ⟨r,ents,clock,rfl,⟨h1.1,key r rfl⟩,h2,h3,h4⟩
 ·rcases hb with hk | ⟨j,x,h1,h2,h3,h4⟩
  ·exact R.klt b hk
  ·exact (R.blk_lt h1 h3 h4).2
theorem ObR.less {N keep keep':Nat→Prop} {val:Value} {o:Ob} (ho:ObR ι N keep w val o) (hk:∀b,keep' b→keep b):ObR ι N keep' w val o:=by
 cases o with
 | dead=>trivial
 | box cs=>
  obtain ⟨b,o,c,T,rfl,h1,h2,h3⟩:=ho
  exact ⟨b,o,c,T,rfl,⟨h1.1,fun x=>h1.2 (hk b x)⟩,h2,h3⟩
 | arr t xs=>
  obtain ⟨a,cap,rfl,hle,ho⟩:=ho
  refine ⟨a,cap,rfl,hle,?_⟩
  rcases ho with rfl | ⟨b,c,T,rfl,h1,h2,h3,h4⟩
  ·exact .inl rfl
  ·exact .inr ⟨b,c,T,rfl,⟨h1.1,fun x=>h1.2 (hk b x)⟩,h2,h3,h4⟩
 | map kt vt es=>
  obtain ⟨r,ents,clock,rfl,h1,h2,h3,h4⟩:=ho
  exact ⟨r,ents,clock,rfl,⟨h1.1,fun x=>h1.2 (hk r x)⟩,h2,h3,h4⟩
theorem Zvs.whole (R:Zcd E ι N h w) {H:Nat→Ob} (hH:∀i,H i=h i∨H i=.dead) {val:Value} {w':World} {ι':Nat→Option Value} {N':Nat→Prop}
  (p:Zvs (E.part ι h H w) ι N H w nid v d val w' ι' N') (hk:∀k,k∈Za2 d→H k=h k):Zvs E ι N h w nid v d val w' ι' N':=by
 have live:∀{i},H i≠.dead→H i=h i:=fun {i} hi=>(hH i).resolve_right hi
 have asd:∀i,h i≠.dead→H i=.dead→Zd9 h d i=h i:=fun i h1 h2=>ZdM d fun hm=>h1 ((hk i hm).symm.trans h2)
 have same:∀i,¬(h i≠.dead∧H i=.dead)→Zd9 h d i=Zd9 H d i:=fun i hn=>by
  refine ZiE d ?_
  rcases hH i with e | e
  ·exact e.symm
  ·by_cases hd:h i=.dead
   ·rw [hd,e]
   ·exact absurd ⟨hd,e⟩ hn
 have blkAside:∀{i u b},h i≠.dead→H i=.dead→ι i=some u→ZbF u=some b→Zq8 E ι h H b:=fun h1 h2 h3 h4=>.inr ⟨_,_,h1,h2,h3,h4⟩
 refine ⟨p.vr,p.later,⟨fun i hi=>?_,fun i j b e hi hj hb=>?_,p.rep.nlt,fun b hb=>p.rep.klt b (.inl hb),?_,p.rep.glob⟩,p.new,fun b hb=>?_⟩
 ·by_cases ha:h i≠.dead∧H i=.dead
  ·rw [asd i ha.1 ha.2]
   obtain ⟨u,hu,ho⟩:=R.ob i ha.1
   refine ⟨u,p.later.loc i u hu,ho.keep p.later (fun b hb ow=>⟨fun hn=>?_,ow.2⟩) fun b hb=>p.rep.pres.mem b (blkAside ha.1 ha.2 hu hb)⟩
   rcases p.bound b hn with x | x
   ·exact ow.1 x
   ·exact x (blkAside ha.1 ha.2 hu hb)
  ·rw [same i ha] at hi ⊢
   obtain ⟨u,hu,ho⟩:=p.rep.ob i hi
   exact ⟨u,hu,ho.less fun b hb=>.inl hb⟩
 ·by_cases hai:h i≠.dead∧H i=.dead
  ·obtain ⟨u,hu,ho⟩:=R.ob i hai.1
   have hu':=p.later.loc i u hu
   rw [hu'] at hb
   by_cases haj:h j≠.dead∧H j=.dead
   ·obtain ⟨x,hx,_⟩:=R.ob j haj.1
    rw [p.later.loc j x hx]
    intro hc
    exact R.sep i j b e hai.1 haj.1 (by rw [hu];exact hb) (by rw [hx];exact hc)
   ·rw [same j haj] at hj
    intro hc
    obtain ⟨x,hx,hox⟩:=p.rep.ob j hj
    rw [hx] at hc
    exact (hox.blk hj hc).1.2 (blkAside hai.1 hai.2 hu hb)
  ·rw [same i hai] at hi
   by_cases haj:h j≠.dead∧H j=.dead
   ·obtain ⟨x,hx,_⟩:=R.ob j haj.1
    rw [p.later.loc j x hx]
    intro hc
    obtain ⟨u,hu,hou⟩:=p.rep.ob i hi
    rw [hu] at hb
    exact (hou.blk hi hb).1.2 (blkAside haj.1 haj.2 hx hc)
   ·rw [same j haj] at hj
    exact p.rep.sep i j b e hi hj hb
 ·have q:=p.rep.pres
  exact ⟨q.os.trans R.pres.os,q.tape.trans R.pres.tape,q.output.trans R.pres.output,Nat.le_trans R.pres.size q.size,fun b hb=>(q.mem b (.inl hb)).trans (R.pres.mem b hb)⟩
 ·exact (p.bound b hb).imp id fun x y=>x (.inl y)
end
end Ev
end
section
namespace Ev
open Go
structure MOk (h:Nat→Ob) (nid0:Nat) (m:M):Prop where
 inj:∀j j' i,ZeE m.ren j=some i→ZeE m.ren j'=some i→j=j'
 has:∀j i,ZeE m.ren j=some i→Zho m.ren i=true
 add:∀x,x∈m.add→(∃t,x.2=.arr t [])∧nid0≤x.1∧x.1<m.nid
 frz:∀i,i∈m.frz→∃t xs,h i=.arr t xs
 nid:nid0≤m.nid
section
variable {h:Nat→Ob} {nid0:Nat} {ots:Nat→OT}
theorem MOk.data {m:M} (o:MOk h nid0 m) (x:Dat):MOk h nid0 (m.data x):=⟨o.inj,o.has,o.add,o.frz,o.nid⟩
theorem MOk.ref {m m':M} {j id:Nat} (o:MOk h nid0 m) (H:m.ref j id=some m'):MOk h nid0 m':=by
 unfold M.ref at H
 split at H
 ·cases hb:Nat.beq _ id with
  | false=>rw [hb] at H;simp at H
  | true=>rw [hb] at H;simp only [cond_true,Option.some.injEq] at H;subst H;exact o
 ·rename_i hn
  cases hb:Zho m.ren id with
  | true=>rw [hb] at H;simp at H
  | false=>
   rw [hb] at H;simp only [cond_false,Option.some.injEq] at H;subst H
   refine ⟨fun k k' i e e'=>?_,fun k i e=>?_,o.add,o.frz,o.nid⟩
   ·simp only [ZeE] at e e'
    cases h1:Nat.beq j k<;>cases h2:Nat.beq j k'<;>rw [h1] at e<;>rw [h2] at e'<;>simp only [cond_true,cond_false,Option.some.injEq] at e e'
    ·exact o.inj k k' i e e'
    ·subst e';have:=o.has k _ e;rw [hb] at this;cases this
    ·subst e;have:=o.has k' _ e';rw [hb] at this;cases this
    ·exact (Nat.eq_of_beq_eq_true h1).symm.trans (Nat.eq_of_beq_eq_true h2)
   ·simp only [ZeE] at e
    simp only [Zho]
    cases h1:Nat.beq j k<;>rw [h1] at e<;>simp only [cond_true,cond_false,Option.some.injEq] at e
    ·rw [o.has k i e];cases Nat.beq id i<;>rfl
    ·subst e;simp
theorem ZvD {t:FT} {a:AV} {xs:List (El t)} {ids:List Nat} (hr:Ztp h t a=some (xs,ids)):∀i,i∈ids→∃t xs,h i=.arr t xs:=by
 intro i hi
 unfold Ztp at hr
 split at hr
 ·split at hr
  ·cases hr;simp at hi
  ·cases hr
 ·cases hr;simp at hi
 ·split at hr
  ·rename_i hx
   split at hr
   ·cases hr;simp at hi;subst hi;exact ⟨_,_,hx⟩
   ·cases hr
  ·cases hr
 ·split at hr
  ·rename_i hx
   split at hr
   ·cases hb:Nat.beq _ (ZaI t) with
    | false=>rw [hb] at hr;simp at hr
    | true=>
     rw [hb] at hr;simp only [cond_true,Option.some.injEq,Prod.mk.injEq] at hr
     obtain ⟨-,rfl⟩:=hr
     simp at hi;subst hi;exact ⟨_,_,hx⟩
   ·cases hr
  ·cases hr
 ·cases hr
mutual
theorem Zxd:∀(tp:Tp) (a:AV) (m m':M),Tp.mt h ots tp a m=some m'→MOk h nid0 m→MOk h nid0 m'
 | .undef,a,m,m',H,o=>by simp only [Tp.mt,Option.some.injEq] at H;subst H;exact o
 | .sc d,a,m,m',H,o=>by
  cases d with
  | int k=>
   cases a<;>simp only [Tp.mt] at H<;>try (cases H;done)
   split at H
   ·cases H;exact o.data _
   ·cases H
  | bool=>
   cases a<;>simp only [Tp.mt] at H<;>try (cases H;done)
   cases H;exact o.data _
  | str=>
   cases a<;>simp only [Tp.mt] at H<;>try (cases H;done)
   cases H;exact o.data _
  | list t=>
   simp only [Tp.mt] at H
   split at H
   ·rename_i hr
    cases H
    exact ⟨o.inj,o.has,o.add,fun i hi=>by
     simp only [ZdE,List.mem_append] at hi
     exact hi.elim (ZvD hr i) (o.frz i),o.nid⟩
   ·cases H
  | map k v=>simp only [Tp.mt] at H;cases H
 | .full j,a,m,m',H,o=>by
  cases a<;>simp only [Tp.mt] at H<;>try (cases H;done)
  case full id=>exact o.ref H
  case nilsl=>
   split at H
   ·refine MOk.ref (m:={ m with nid:=m.nid+1,add:=(m.nid,.arr _ [])::m.add }) ⟨o.inj,o.has,fun x hx=>?_,o.frz,Nat.le_succ_of_le o.nid⟩ H
    cases hx with
    | head=>exact ⟨⟨_,rfl⟩,o.nid,Nat.lt_succ_self _⟩
    | tail _ hx=>obtain ⟨a,b,c⟩:=o.add x hx;exact ⟨a,b,Nat.lt_succ_of_lt c⟩
   ·cases H
 | .ptr j o',a,m,m',H,o=>by
  cases a<;>simp only [Tp.mt] at H<;>try (cases H;done)
  rename_i id o''
  cases hb:Nat.beq o' o'' with
  | false=>rw [hb] at H;simp at H
  | true=>rw [hb] at H;exact o.ref H
 | .map j,a,m,m',H,o=>by
  cases a<;>simp only [Tp.mt] at H<;>try (cases H;done)
  exact o.ref H
 | .nilp,a,m,m',H,o=>by
  cases a<;>simp only [Tp.mt] at H<;>try (cases H;done)
  cases H;exact o
 | .cint k n,a,m,m',H,o=>by
  cases a<;>simp only [Tp.mt] at H<;>try (cases H;done)
  split at H
  ·split at H
   ·cases H;exact o
   ·cases H
  ·cases H
 | .cstr s,a,m,m',H,o=>by
  cases a<;>simp only [Tp.mt] at H<;>try (cases H;done)
  split at H
  ·cases H;exact o
  ·cases H
 | .cbool s,a,m,m',H,o=>by
  cases a<;>simp only [Tp.mt] at H<;>try (cases H;done)
  split at H
  ·cases H;exact o
  ·cases H
 | .gptr g o',a,m,m',H,o=>by
  cases a<;>simp only [Tp.mt] at H<;>try (cases H;done)
  rename_i g' o''
  cases hb:(Nat.beq g g'&&Nat.beq o' o'') with
  | false=>rw [hb] at H;simp at H
  | true=>rw [hb] at H;simp only [cond_true,Option.some.injEq] at H;subst H;exact o
 | .fn f x y,a,m,m',H,o=>by
  cases a<;>simp only [Tp.mt] at H<;>try (cases H;done)
  rename_i f' x' y'
  cases hb:Nat.beq f f' with
  | false=>rw [hb] at H;simp at H
  | true=>
   rw [hb] at H;simp only [cond_true] at H
   split at H
   ·rename_i m1 hm1
    exact ZjG y y' m1 m' H (ZjG x x' m m1 hm1 o)
   ·cases H
 | .agg l,a,m,m',H,o=>by
  cases a<;>simp only [Tp.mt] at H<;>try (cases H;done)
  exact ZjG l _ m m' H o
 | .tup l,a,m,m',H,o=>by
  cases a<;>simp only [Tp.mt] at H<;>try (cases H;done)
  exact ZjG l _ m m' H o
theorem ZjG:∀(tps:List Tp) (as:List AV) (m m':M),Tp.mts h ots tps as m=some m'→MOk h nid0 m→MOk h nid0 m'
 | [],as,m,m',H,o=>by
  cases as<;>simp only [Tp.mts] at H<;>try (cases H;done)
  cases H;exact o
 | tp::tps,as,m,m',H,o=>by
  cases as<;>simp only [Tp.mts] at H<;>try (cases H;done)
  split at H
  ·rename_i m1 hm1
   exact ZjG tps _ m1 m' H (Zxd tp _ m m1 hm1 o)
  ·cases H
end
theorem Zsc (m:M) (x:Dat):m.Ext (m.data x):=⟨fun _ _ h=>h,⟨[],rfl⟩,fun _ h=>h⟩
theorem OT.mt_both:∀(t:OT) (j:Nat) (m m':M),OT.mt h ots (fun m=>ZqE m.add h) t j m=some m'→m.Ext m'∧(MOk h nid0 m→MOk h nid0 m'):=by
 intro t j m m' H
 cases t with
 | dead=>simp only [OT.mt,Option.some.injEq] at H;subst H;exact ⟨.refl m,id⟩
 | box l=>
  simp only [OT.mt] at H
  split at H
  ·split at H
   ·exact ⟨Zga l _ m m' H,ZjG l _ m m' H⟩
   ·cases H
  ·cases H
 | arr t=>
  simp only [OT.mt] at H
  split at H
  ·split at H
   ·split at H
    ·cases H;exact ⟨Zsc m _,fun o=>o.data _⟩
    ·cases H
   ·cases H
  ·cases H
 | map k v=>
  simp only [OT.mt] at H
  split at H
  ·split at H
   ·split at H
    ·split at H
     ·cases H;exact ⟨Zsc m _,fun o=>o.data _⟩
     ·cases H
    ·cases H
   ·cases H
  ·cases H
theorem OT.mts_both:∀(l:List OT) (j:Nat) (m m':M),OT.mts h ots l j m=some m'→m.Ext m'∧(MOk h nid0 m→MOk h nid0 m')
 | [],j,m,m',H=>by simp only [OT.mts,Option.some.injEq] at H;subst H;exact ⟨.refl m,id⟩
 | t::l,j,m,m',H=>by
  simp only [OT.mts] at H
  split at H
  ·rename_i m1 hm1
   obtain ⟨a,b⟩:=OT.mt_both t j m m1 hm1
   obtain ⟨c,d⟩:=OT.mts_both l (j+1) m1 m' H
   exact ⟨a.trans c,fun o=>d (b o)⟩
  ·cases H
theorem Zlh {fr:List AV}:∀(l:List (Nat×Tp)) (m m':M),ZwR h ots fr l m=some m'→m.Ext m'∧(MOk h nid0 m→MOk h nid0 m')
 | [],m,m',H=>by simp only [ZwR,Option.some.injEq] at H;subst H;exact ⟨.refl m,id⟩
 | (i,t)::l,m,m',H=>by
  simp only [ZwR] at H
  split at H
  ·rename_i m1 hm1
   obtain ⟨c,d⟩:=Zlh l m1 m' H
   exact ⟨(Zt8 t _ m m1 hm1).trans c,fun o=>d (Zxd t _ m m1 hm1 o)⟩
  ·cases H
theorem Zh4 {nid0:Nat}:∀(d:ZbC) (id:Nat),(∀x,x∈d→(∃t,x.2=.arr t [])∧nid0≤x.1)→(ZqE d h id=h id∧id∉Za2 d)∨(id∈Za2 d∧∃t,ZqE d h id=.arr t [])
 | [],id,_=>.inl ⟨rfl,by simp [Za2]⟩
 | (j,o)::d,id,hx=>by
  simp only [ZqE,Za2]
  cases hb:Nat.beq j id with
  | true=>
   have:=Nat.eq_of_beq_eq_true hb
   obtain ⟨⟨t,e⟩,_⟩:=hx (j,o) (by simp)
   exact .inr ⟨by simp [this],t,by simpa using e⟩
  | false=>
   have hne:id≠j:=fun e=>by subst e;simp at hb
   rcases Zh4 d id (fun x h=>hx x (by simp [h])) with ⟨a,b⟩ | ⟨a,b⟩
   ·exact .inl ⟨by simpa using a,by simp [hne,b]⟩
   ·exact .inr ⟨by simp [a],by simpa using b⟩
end
def Zoj (ι:Nat→Option Value) (add:ZbC) (k:Nat):Option Value:=if k∈Za2 add then some (.slice none 0 0) else ι k
def ZlP (ι:Nat→Option Value) (m:M) (j:Nat):Option Value:=(ZeE m.ren j).bind (Zoj ι m.add)
def Zr0 (ι:Nat→Option Value) (N:Nat→Prop) (m:M) (b:Nat):Prop:=N b∨∃i u,i∈m.frz∧ι i=some u∧ZbF u=some b
section
variable {E:Env} {ι:Nat→Option Value} {N:Nat→Prop} {h:Nat→Ob} {w:World} {mf:M} {ots:Nat→OT} {nid0:Nat}
theorem ZgK {d:ZbC} {k:Nat}:k∈Za2 d↔∃o,(k,o)∈d:=by rw [Zha];simp
theorem img (R:Zcd E ι N h w) (o:MOk h nid0 mf) (fresh:∀k,k∈Za2 mf.add→ι k=none):Img E ι N h w mf (Zoj ι mf.add) (ZlP ι mf) (Zr0 ι N mf):=by
 refine ⟨R,fun j i e=>by simp [ZlP,e],fun i v e=>?_,fun x hx=>?_,fun b hb=>.inl hb,fun i v b hi e hb=>.inr ⟨i,v,hi,e,hb⟩⟩
 ·unfold Zoj
  split
  ·rename_i hk;rw [fresh i hk] at e;cases e
  ·exact e
 ·unfold Zoj
  rw [if_pos (ZgK.2 ⟨x.2,hx⟩)]
theorem ZmZ:∀{r:List (Nat×Nat)} {l:List Nat},Zn0 r l=true→∀i,i∈l→Zho r i=false
 | r,[],_,i,hi=>by simp at hi
 | r,a::l,h,i,hi=>by
  simp only [Zn0,Bool.and_eq_true,Bool.not_eq_true'] at h
  cases hi with
  | head=>exact h.1
  | tail _ hi=>exact ZmZ h.2 i hi
theorem ZiQ:∀{r:List (Nat×Nat)} {n q:Nat},ZvF r n q=true→∀j i,ZeE r j=some i→j<n∧i<q
 | [],n,q,_,j,i,e=>by simp [ZeE] at e
 | (k,i')::r,n,q,h,j,i,e=>by
  simp only [ZvF,Bool.and_eq_true,Nat.blt_eq] at h
  simp only [ZeE] at e
  cases hb:Nat.beq k j with
  | true=>have:=Nat.eq_of_beq_eq_true hb;subst this;rw [hb] at e;simp at e;subst e;exact h.1
  | false=>rw [hb] at e;exact ZiQ h.2 j i e
theorem ZqS (R:Zcd E ι N h w) (o:MOk h nid0 mf) (hz:Zn0 mf.ren mf.frz=true) {j i:Nat} (hj:ZeE mf.ren j=some i) (hd:h i≠.dead) {u:Value} (hu:ι i=some u)
  {b:Nat} (hb:ZbF u=some b) (ow:own N E.keep b):own (Zr0 ι N mf) E.keep b:=by
 refine ⟨?_,ow.2⟩
 rintro (hn | ⟨k,x,hk,hx,hbx⟩)
 ·exact ow.1 hn
 ·obtain ⟨t,xs,hkx⟩:=o.frz k hk
  have hne:i≠k:=by
   rintro rfl
   have h1:=o.has j i hj
   rw [ZmZ hz i hk] at h1;cases h1
  exact R.sep i k b hne hd (by rw [hkx];simp) (by rw [hu];exact hb) (by rw [hx];exact hbx)
theorem Zbk.list {Q:AV→Value→Prop} {c:Array Value} {p:Nat} {cs:List AV} (hc:Zbk Q c p cs):∃vs:List Value,vs.length=cs.length∧(∀f,f<cs.length→c[p+f]? = vs[f]?)∧
  ∀(f:Nat) (a:AV) (v:Value),cs[f]? = some a→vs[f]? = some v→Q a v:=by
 refine ⟨(List.range cs.length).map fun f=>c[p+f]?.getD default,by simp,fun f hf=>?_,fun f a v ha hv=>?_⟩
 ·obtain ⟨v,hv,_⟩:=hc f cs[f] (List.getElem?_eq_getElem hf)
  simp [hf,hv]
 ·obtain ⟨u,hu,hq⟩:=hc f a ha
  have hf:f<cs.length:=(List.getElem?_eq_some_iff.1 ha).1
  simp [hf,hu] at hv
  subst hv;exact hq
theorem ZvK (R:Zcd E ι N h w) (o:MOk h nid0 mf) (fresh:∀k,k∈Za2 mf.add→ι k=none) (hz:Zn0 mf.ren mf.frz=true) :
  ∀(t:OT) (j:Nat) (m m':M),OT.mt h ots (fun m=>ZqE m.add h) t j m=some m'→m'.Ext mf→MOk h nid0 m→
   ∃new x,m'.ds=new.reverse++m.ds∧(∀rest,OT.inst (fun j=>j) t (new++rest)=(x,rest))∧
    (x≠.dead→∃i u,ZeE mf.ren j=some i∧Zoj ι mf.add i=some u∧ObR (ZlP ι mf) (Zr0 ι N mf) E.keep w u x∧(u=.slice none 0 0∨(h i≠.dead∧ι i=some u))):=by
 intro t j m m' H X om
 have I:=img R o fresh
 have madd:∀x,x∈m.add→(∃t,x.2=.arr t [])∧nid0≤x.1:=fun x hx=>⟨(om.add x hx).1,(om.add x hx).2.1⟩
 cases t with
 | dead=>simp only [OT.mt,Option.some.injEq] at H;subst H;exact ⟨[],.dead,rfl,fun _=>rfl,fun h=>absurd rfl h⟩
 | box l=>
  simp only [OT.mt] at H
  split at H
  ·rename_i id hid
   split at H
   ·rename_i cs hcs
    have hbox:h id=.box cs:=by
     rcases Zh4 (h:=h) m.add id madd with ⟨e,_⟩ | ⟨_,t,e⟩
     ·rw [←e];exact hcs
     ·rw [e] at hcs;cases hcs
    have hd:h id≠.dead:=by rw [hbox];simp
    obtain ⟨u,hu,ho⟩:=R.ob id hd
    rw [hbox] at ho
    obtain ⟨b,p,c,T,rfl,h1,h2,h3⟩:=ho
    obtain ⟨vs,hl,hvs,hq⟩:=Zbk.list h3
    obtain ⟨_,new,avs,d1,i1,r1⟩:=Ze4 I l cs m m' vs H X (.of_get hl.symm fun f a v ha hv=>(hq f a v ha hv).1)
    have hren:ZeE mf.ren j=some id:=X.ren j id ((Zga l cs m m' H).ren j id hid)
    refine ⟨new,.box avs,d1,fun rest=>by simp only [OT.inst,i1],fun _=>⟨id,_,hren,I.old id _ hu,⟨b,p,c,T,rfl,ZqS R o hz hren hd hu rfl h1,h2,fun f a ha=>?_⟩,.inr ⟨hd,hu⟩⟩⟩
    obtain ⟨v,hv,hva⟩:=r1.get f a ha
    have hf:f<cs.length:=by rw [←hl];exact (List.getElem?_eq_some_iff.1 hv).1
    refine ⟨v,(hvs f hf).trans hv,hva,?_⟩
    exact (hq f cs[f] v (List.getElem?_eq_getElem hf) hv).2
   ·cases H
  ·cases H
 | arr t=>
  simp only [OT.mt] at H
  split at H
  ·rename_i id hid
   split at H
   ·rename_i t' xs hx
    split at H
    ·rename_i e;subst e
     cases H
     have hren:ZeE mf.ren j=some id:=X.ren j id hid
     refine ⟨[⟨.list t',xs⟩],.arr t' xs,rfl,fun _=>rfl,fun _=>?_⟩
     rcases Zh4 (h:=h) m.add id madd with ⟨e,_⟩ | ⟨hk,t,e⟩
     ·have hh:h id=.arr t' xs:=e.symm.trans hx
      have hd:h id≠.dead:=by rw [hh];simp
      obtain ⟨u,hu,ho⟩:=R.ob id hd
      rw [hh] at ho
      obtain ⟨a,cap,rfl,hle,ho⟩:=ho
      refine ⟨id,_,hren,I.old id _ hu,⟨a,cap,rfl,hle,?_⟩,.inr ⟨hd,hu⟩⟩
      rcases ho with rfl | ⟨b,c,T,rfl,h1,h2,h3,h4⟩
      ·exact .inl rfl
      ·by_cases hc:cap=0
       ·exact .inl hc
       ·exact .inr ⟨b,c,T,rfl,ZqS R o hz hren hd hu (by simp [ZbF,hc]) h1,h2,h3,fun j x hx=>(h4 j x hx).mono fun _ _=>VRc.mono (fun b hb=>.inl hb) fun _ _=>rfl⟩
     ·have hx0:(Ob.arr t' xs)=.arr t []:=hx.symm.trans e
      simp only [Ob.arr.injEq] at hx0
      obtain ⟨rfl,hx0⟩:=hx0
      have hx0:=eq_of_heq hx0;subst hx0
      obtain ⟨ob,hob⟩:=ZgK.1 hk
      obtain ⟨l,el⟩:=X.add
      refine ⟨id,_,hren,I.add (id,ob) (by rw [el];exact List.mem_append_right l hob),⟨none,0,rfl,Nat.le_refl _,.inl rfl⟩,.inl rfl⟩
    ·cases H
   ·cases H
  ·cases H
 | map k v=>
  simp only [OT.mt] at H
  split at H
  ·rename_i id hid
   split at H
   ·rename_i k' v' es hx
    split at H
    ·rename_i e;subst e
     split at H
     ·rename_i e;subst e
      cases H
      have hren:ZeE mf.ren j=some id:=X.ren j id hid
      have hh:h id=.map k' v' es:=by
       rcases Zh4 (h:=h) m.add id madd with ⟨e,_⟩ | ⟨_,t,e⟩
       ·rw [←e];exact hx
       ·rw [e] at hx;cases hx
      have hd:h id≠.dead:=by rw [hh];simp
      obtain ⟨u,hu,ho⟩:=R.ob id hd
      rw [hh] at ho
      obtain ⟨r,ents,clock,rfl,h1,h2,h3,h4⟩:=ho
      exact ⟨[⟨.map k' v',es⟩],.map k' v' es,rfl,fun _=>rfl,fun _=>⟨id,_,hren,I.old id _ hu,⟨r,ents,clock,rfl,ZqS R o hz hren hd hu rfl h1,h2,h3,h4⟩,.inr ⟨hd,hu⟩⟩⟩
     ·cases H
    ·cases H
   ·cases H
  ·cases H
theorem ZkJ (R:Zcd E ι N h w) (o:MOk h nid0 mf) (fresh:∀k,k∈Za2 mf.add→ι k=none) (hz:Zn0 mf.ren mf.frz=true) :
  ∀(l:List OT) (j:Nat) (m m':M),OT.mts h ots l j m=some m'→m'.Ext mf→MOk h nid0 m→
   ∃new,m'.ds=new.reverse++m.ds∧∀rest,(OT.insts (fun j=>j) l (new++rest)).length=l.length∧∀k,ZcR (OT.insts (fun j=>j) l (new++rest)) k≠.dead→
    ∃i u,ZeE mf.ren (j+k)=some i∧Zoj ι mf.add i=some u∧ObR (ZlP ι mf) (Zr0 ι N mf) E.keep w u (ZcR (OT.insts (fun j=>j) l (new++rest)) k)∧(u=.slice none 0 0∨(h i≠.dead∧ι i=some u))
 | [],j,m,m',H,X,om=>by
  simp only [OT.mts,Option.some.injEq] at H;subst H
  exact ⟨[],rfl,fun rest=>⟨rfl,fun k hk=>by simp [OT.insts,ZcR] at hk⟩⟩
 | t::l,j,m,m',H,X,om=>by
  simp only [OT.mts] at H
  split at H
  ·rename_i m1 hm1
   have b1:=OT.mt_both (nid0:=nid0) t j m m1 hm1
   have b2:=OT.mts_both (nid0:=nid0) l (j+1) m1 m' H
   obtain ⟨n1,x,d1,i1,r1⟩:=ZvK R o fresh hz t j m m1 hm1 (b2.1.trans X) om
   obtain ⟨n2,d2,r2⟩:=ZkJ R o fresh hz l (j+1) m1 m' H X (b1.2 om)
   refine ⟨n1++n2,by rw [d2,d1];simp,fun rest=>?_⟩
   have e:OT.insts (fun j=>j) (t::l) (n1++n2++rest)=x::OT.insts (fun j=>j) l (n2++rest):=by
    simp only [OT.insts,List.append_assoc,i1]
   rw [e]
   refine ⟨by simp [(r2 rest).1],fun k hk=>?_⟩
   cases k with
   | zero=>exact r1 hk
   | succ k=>
    obtain ⟨i,u,q⟩:=(r2 rest).2 k hk
    rw [show j+(k+1)=j+1+k by omega]
    exact ⟨i,u,q⟩
  ·cases H
theorem Den.of_list:∀{ds:List DT} {l:List Dat} {d:Den ds},Den.of ds l=some d→Den.list ds d=l
 | [],[],d,h=>rfl
 | [],_::_,d,h=>by simp [Den.of] at h
 | [a],[],d,h=>by simp [Den.of] at h
 | [a],[x],d,h=>by
  simp only [Den.of,Dat.as] at h
  split at h
  ·rename_i e
   obtain ⟨xd,xv⟩:=x
   dsimp only at e;subst e
   cases h;rfl
  ·cases h
 | [a],_::_::_,d,h=>by simp [Den.of] at h
 | a::b::r,[],d,h=>by simp [Den.of] at h
 | a::b::r,x::l,d,h=>by
  simp only [Den.of,Dat.as] at h
  split at h
  ·rename_i p q h1 h2
   cases h
   have ih:=Den.of_list (ds:=b::r) h2
   simp only [Den.list,ih]
   congr 1
   split at h1
   ·rename_i e
    obtain ⟨xd,xv⟩:=x
    dsimp only at e;subst e
    cases h1;rfl
   ·cases h1
  ·cases h
theorem ZuF (R:Zcd E ι N h w) (o:MOk h nid0 mf) (fresh:∀k,k∈Za2 mf.add→ι k=none) (hz:Zn0 mf.ren mf.frz=true) {H:Ziy}
  (hob:∀k,ZcR H k≠.dead→∃i u,ZeE mf.ren k=some i∧Zoj ι mf.add i=some u∧ObR (ZlP ι mf) (Zr0 ι N mf) E.keep w u (ZcR H k)∧(u=.slice none 0 0∨(h i≠.dead∧ι i=some u))) :
  Zcd E (ZlP ι mf) (Zr0 ι N mf) (ZcR H) w:=by
 have hi:∀{j i},ZeE mf.ren j=some i→ZlP ι mf j=Zoj ι mf.add i:=fun {j i} e=>by simp [ZlP,e]
 refine ⟨fun k hk=>?_,fun j k b e hj hk hb hc=>?_,fun b hb=>?_,R.klt,R.pres,fun g hg=>?_⟩
 ·obtain ⟨i,u,e1,e2,e3,_⟩:=hob k hk
  exact ⟨u,(hi e1).trans e2,e3⟩
 ·obtain ⟨i,u,e1,e2,e3,e4⟩:=hob j hj
  obtain ⟨i',u',f1,f2,f3,f4⟩:=hob k hk
  rw [hi e1,e2] at hb
  rw [hi f1,f2] at hc
  change ZbF u=some b at hb
  change ZbF u'=some b at hc
  rcases e4 with rfl | ⟨e5,e6⟩
  ·simp [ZbF] at hb
  ·rcases f4 with rfl | ⟨f5,f6⟩
   ·simp [ZbF] at hc
   ·have hne:i≠i':=by rintro rfl;exact e (o.inj j k i e1 f1)
    exact R.sep i i' b hne e5 f5 (by rw [e6];exact hb) (by rw [f6];exact hc)
 ·rcases hb with hb | ⟨i,u,h1,h2,h3⟩
  ·exact R.nlt b hb
  ·obtain ⟨t,xs,hx⟩:=o.frz i h1
   exact (R.blk_lt (by rw [hx];simp) h2 h3).2
 ·obtain ⟨n,c,T,fz,hc,hx⟩:=R.glob g hg
  exact ⟨.inl n,c,T,fz,hc,hx.mono fun a v ⟨x,y⟩=>⟨VRc.mono (fun b hb=>.inl hb) (fun _ _=>rfl) x,y⟩⟩
end
end Ev
end
section
namespace Ev
open Go
structure Znj (E:Env) (k:Nat) (ι:Nat→Option Value) (N:Nat→Prop) (w:World) (ι':Nat→Option Value) (N':Nat→Prop) (w':World):Prop where
 loc:∀i,i<k→ι' i=ι i
 ro:∀b,N b→N' b
 mem:∀b,N b→w'.heap[b]? = w.heap[b]?
 bound:∀b,N' b→N b∨¬E.keep b
theorem Znj.refl (E k ι N w):Znj E k ι N w ι N w:=⟨fun _ _=>rfl,fun _ h=>h,fun _ _=>rfl,fun _ h=>.inl h⟩
theorem Znj.trans {E k ι N w ι' N' w' ι'' N'' w''} (a:Znj E k ι N w ι' N' w') (b:Znj E k ι' N' w' ι'' N'' w''):Znj E k ι N w ι'' N'' w'':=
 ⟨fun i h=>(b.loc i h).trans (a.loc i h),fun x h=>b.ro x (a.ro x h),fun x h=>(b.mem x (a.ro x h)).trans (a.mem x h),fun x h=>(b.bound x h).elim (a.bound x) .inr⟩
def Zah (P:Program) (C:Ctx) (f:Nat) (S:ZaT):Prop:=
 S.wf=true∧∀(d:Den S.ids) (r:Den S.out.ds),S.F d=some r→∀(E:Env),E.P=P→E.C=C→∀(ι:Nat→Option Value) (N:Nat→Prop) (w:World) (vs:Array Value) (args:List AV) (l:List Dat),
  Tp.insts (fun j=>j) S.args (Den.list S.ids d)=(args,l)→VRL ι N w args vs.toList→Zcd E ι N (ZcR (OT.insts (fun j=>j) S.ihp l)) w→
  (∀i,S.ihp.length≤i→ι i=none)→
  OpR P (callFunc f vs) w fun val w'=>∃ι' N' v l',S.out.res.inst (fun j=>j) (Den.list S.out.ds r)=(v,l')∧VR ι' N' w' v val∧
   Zcd E ι' N' (ZcR (OT.insts (fun j=>j) S.out.hp l')) w'∧(∀i,S.out.hp.length≤i→ι' i=none)∧Znj E S.keep ι N w ι' N' w'
section
variable {ι2 ι3:Nat→Option Value} {N2 N3:Nat→Prop} {w:World} {ρ:Nat→Nat} {ro:Bool}
mutual
theorem ZrX (hι:∀j u,ι2 j=some u→ι3 (ρ j)=some u) (hN:ro=true→∀b,N2 b→N3 b):∀(t:Tp) (ds ds':List DT) (l:List Dat),(hasRo t=true→ro=true)→Tp.fit t ds=some ds'→l.map (·.d)=ds→
  (t.inst (fun j=>j) l).2=(t.inst ρ l).2∧(t.inst ρ l).2.map (·.d)=ds'∧∀v,VR ι2 N2 w (t.inst (fun j=>j) l).1 v→VR ι3 N3 w (t.inst ρ l).1 v
 | .undef,ds,ds',l,hr,hf,hl=>by simp only [Tp.fit,Option.some.injEq] at hf;subst hf;simp only [Tp.inst];exact ⟨trivial,hl,fun v _=>by simp only [VR]⟩
 | .sc d,ds,ds',l,hr,hf,hl=>by
  cases ds with
  | nil=>simp [Tp.fit] at hf
  | cons d' r=>
   simp only [Tp.fit] at hf
   split at hf
   ·rename_i e;subst e;cases hf
    cases l with
    | nil=>simp at hl
    | cons x l=>
     simp only [List.map_cons,List.cons.injEq] at hl
     simp only [Tp.inst]
     refine ⟨trivial,hl.2,fun v hv=>?_⟩
     obtain ⟨xd,xv⟩:=x
     dsimp only at hl
     obtain ⟨rfl,_⟩:=hl
     cases xd with
     | list t=>
      have hro:=hr rfl
      simp only [Dat.av,VR] at hv ⊢
      exact hv.mono (fun _ _=>VRc.mono (hN hro) fun _ _=>rfl) (hN hro) fun _ _=>rfl
     | _=>simp only [Dat.av,VR] at hv ⊢<;>exact hv
   ·cases hf
 | .full j,ds,ds',l,hr,hf,hl=>by
  simp only [Tp.fit,Option.some.injEq] at hf;subst hf;simp only [Tp.inst]
  exact ⟨trivial,hl,fun v hv=>by simp only [VR] at hv ⊢;exact ⟨hι j v hv.1,hv.2⟩⟩
 | .ptr j o,ds,ds',l,hr,hf,hl=>by
  simp only [Tp.fit,Option.some.injEq] at hf;subst hf;simp only [Tp.inst]
  exact ⟨trivial,hl,fun v hv=>by simp only [VR] at hv ⊢;obtain ⟨b,p,h1,h2⟩:=hv;exact ⟨b,p,hι j _ h1,h2⟩⟩
 | .map j,ds,ds',l,hr,hf,hl=>by
  simp only [Tp.fit,Option.some.injEq] at hf;subst hf;simp only [Tp.inst]
  exact ⟨trivial,hl,fun v hv=>by simp only [VR] at hv ⊢;exact ⟨hι j v hv.1,hv.2⟩⟩
 | .nilp,ds,ds',l,hr,hf,hl=>by
  simp only [Tp.fit,Option.some.injEq] at hf;subst hf;simp only [Tp.inst]
  exact ⟨trivial,hl,fun v hv=>by simp only [VR] at hv ⊢;exact hv⟩
 | .cint k n,ds,ds',l,hr,hf,hl=>by
  simp only [Tp.fit,Option.some.injEq] at hf;subst hf;simp only [Tp.inst]
  exact ⟨trivial,hl,fun v hv=>by simp only [VR] at hv ⊢;exact hv⟩
 | .cstr s,ds,ds',l,hr,hf,hl=>by
  simp only [Tp.fit,Option.some.injEq] at hf;subst hf;simp only [Tp.inst]
  exact ⟨trivial,hl,fun v hv=>by simp only [VR] at hv ⊢;exact hv⟩
 | .cbool s,ds,ds',l,hr,hf,hl=>by
  simp only [Tp.fit,Option.some.injEq] at hf;subst hf;simp only [Tp.inst]
  exact ⟨trivial,hl,fun v hv=>by simp only [VR] at hv ⊢;exact hv⟩
 | .gptr g o,ds,ds',l,hr,hf,hl=>by
  simp only [Tp.fit,Option.some.injEq] at hf;subst hf;simp only [Tp.inst]
  exact ⟨trivial,hl,fun v hv=>by simp only [VR] at hv ⊢;exact hv⟩
 | .fn f a b,ds,ds',l,hr,hf,hl=>by
  simp only [Tp.fit] at hf
  split at hf
  ·rename_i ds1 h1
   obtain ⟨a1,a2,a3⟩:=ZfU hι hN a ds ds1 l (fun h=>hr (by simp [hasRo,h])) h1 hl
   obtain ⟨b1,b2,b3⟩:=ZfU hι hN b ds1 ds' _ (fun h=>hr (by simp [hasRo,h])) hf a2
   simp only [Tp.inst]
   rw [a1]
   refine ⟨b1,b2,fun v hv=>?_⟩
   simp only [VR] at hv ⊢
   obtain ⟨fs,cs,h1,h2,h3⟩:=hv
   exact ⟨fs,cs,h1,a3 _ h2,b3 _ h3⟩
  ·cases hf
 | .agg a,ds,ds',l,hr,hf,hl=>by
  simp only [Tp.fit] at hf
  obtain ⟨a1,a2,a3⟩:=ZfU hι hN a ds ds' l (fun h=>hr (by simp [hasRo,h])) hf hl
  simp only [Tp.inst]
  refine ⟨a1,a2,fun v hv=>?_⟩
  simp only [VR] at hv ⊢
  obtain ⟨vs,h1,h2,h3⟩:=hv
  exact ⟨vs,h1,a3 _ h2,h3⟩
 | .tup a,ds,ds',l,hr,hf,hl=>by
  simp only [Tp.fit] at hf
  obtain ⟨a1,a2,a3⟩:=ZfU hι hN a ds ds' l (fun h=>hr (by simp [hasRo,h])) hf hl
  simp only [Tp.inst]
  refine ⟨a1,a2,fun v hv=>?_⟩
  simp only [VR] at hv ⊢
  obtain ⟨vs,h1,h2⟩:=hv
  exact ⟨vs,h1,a3 _ h2⟩
theorem ZfU (hι:∀j u,ι2 j=some u→ι3 (ρ j)=some u) (hN:ro=true→∀b,N2 b→N3 b):∀(ts:List Tp) (ds ds':List DT) (l:List Dat),(Zii ts=true→ro=true)→Tp.fits ts ds=some ds'→l.map (·.d)=ds→
  (Tp.insts (fun j=>j) ts l).2=(Tp.insts ρ ts l).2∧(Tp.insts ρ ts l).2.map (·.d)=ds'∧∀vs,VRL ι2 N2 w (Tp.insts (fun j=>j) ts l).1 vs→VRL ι3 N3 w (Tp.insts ρ ts l).1 vs
 | [],ds,ds',l,hr,hf,hl=>by simp only [Tp.fits,Option.some.injEq] at hf;subst hf;simp only [Tp.insts];exact ⟨trivial,hl,fun vs h=>by cases vs<;>simp [VRL] at h ⊢⟩
 | t::ts,ds,ds',l,hr,hf,hl=>by
  simp only [Tp.fits] at hf
  split at hf
  ·rename_i ds1 h1
   obtain ⟨a1,a2,a3⟩:=ZrX hι hN t ds ds1 l (fun h=>hr (by simp [Zii,h])) h1 hl
   obtain ⟨b1,b2,b3⟩:=ZfU hι hN ts ds1 ds' _ (fun h=>hr (by simp [Zii,h])) hf a2
   simp only [Tp.insts]
   rw [a1]
   refine ⟨b1,b2,fun vs hv=>?_⟩
   cases vs with
   | nil=>simp [VRL] at hv
   | cons v vs=>simp only [VRL] at hv ⊢;exact ⟨a3 v hv.1,b3 vs hv.2⟩
  ·cases hf
end
theorem ZwK {N2 N3:Nat→Prop} {w:World}:∀{s:Sc} {x:s.T} {v:Value},(∀k,s=.ints k→∀b,N2 b→N3 b)→VRc N2 w (s.av x) v→VRc N3 w (s.av x) v
 | .int k,x,v,_,h=>h
 | .bool,x,v,_,h=>h
 | .str,x,v,_,h=>h
 | .ints k,x,v,hN,h=>by
  simp only [Sc.av,VRc] at h ⊢
  exact h.mono (fun _ _ h=>h) (hN k rfl) fun _ _=>rfl
theorem Zp6 {N2 N3:Nat→Prop} {w:World}:∀{t:FT} {x:El t},(ftRo t=true→∀b,N2 b→N3 b)→∀a,a∈El.cells t x→∀v,VRc N2 w a v→VRc N3 w a v
 | [],x,_,a,ha,v,h=>by simp [El.cells] at ha
 | [s],x,hN,a,ha,v,h=>by
  simp only [El.cells,List.mem_singleton] at ha;subst ha
  exact ZwK (fun k e=>hN (by subst e;rfl)) h
 | s::s'::r,x,hN,a,ha,v,h=>by
  simp only [El.cells,List.mem_cons] at ha
  rcases ha with ha | ha
  ·subst ha;exact ZwK (fun k e=>hN (by subst e;rfl)) h
  ·exact Zp6 (t:=s'::r) (fun e=>hN (by cases s<;>simp [ftRo,e])) a ha v h
theorem Zbk.on {P Q:AV→Value→Prop} {c p as} (h:Zbk P c p as) (hpq:∀a,a∈as→∀v,P a v→Q a v):Zbk Q c p as:=
 fun f a ha=>let ⟨v,h1,h2⟩:=h f a ha;⟨v,h1,hpq a (List.mem_of_getElem? ha) _ h2⟩
theorem ot_ren (hι:∀j u,ι2 j=some u→ι3 (ρ j)=some u) (hN:ro=true→∀b,N2 b→N3 b):∀(t:OT) (ds ds':List DT) (l:List Dat),(OT.hasRo t=true→ro=true)→OT.fit t ds=some ds'→l.map (·.d)=ds→
  (OT.inst (fun j=>j) t l).2=(OT.inst ρ t l).2∧(OT.inst ρ t l).2.map (·.d)=ds'∧
  ((OT.inst (fun j=>j) t l).1=.dead→(OT.inst ρ t l).1=.dead)∧
  ∀keep2 keep3:Nat→Prop,(∀b,own N2 keep2 b→own N3 keep3 b)→∀u,ObR ι2 N2 keep2 w u (OT.inst (fun j=>j) t l).1→ObR ι3 N3 keep3 w u (OT.inst ρ t l).1
 | .dead,ds,ds',l,hr,hf,hl=>by
  simp only [OT.fit,Option.some.injEq] at hf;subst hf;simp only [OT.inst]
  exact ⟨trivial,hl,fun _=>trivial,fun _ _ _ _ h=>h⟩
 | .box a,ds,ds',l,hr,hf,hl=>by
  simp only [OT.fit] at hf
  obtain ⟨a1,a2,a3⟩:=ZfU (w:=w) hι hN a ds ds' l (fun h=>hr (by simp [OT.hasRo,h])) hf hl
  simp only [OT.inst]
  refine ⟨a1,a2,fun h=>(by cases h),fun k2 k3 ho u h=>?_⟩
  obtain ⟨b,p,c,T,rfl,h1,h2,h3⟩:=h
  obtain ⟨vs,hlen,hvs,hq⟩:=Zbk.list h3
  have r:=a3 vs (.of_get hlen.symm fun f a v ha hv=>(hq f a v ha hv).1)
  refine ⟨b,p,c,T,rfl,ho b h1,h2,fun f x ha=>?_⟩
  obtain ⟨v,hv,hva⟩:=r.get f x ha
  have hf':f<(Tp.insts (fun j=>j) a l).1.length:=by rw [←hlen];exact (List.getElem?_eq_some_iff.1 hv).1
  exact ⟨v,(hvs f hf').trans hv,hva,(hq f _ v (List.getElem?_eq_getElem hf') hv).2⟩
 | .arr t,ds,ds',l,hr,hf,hl=>by
  cases ds with
  | nil=>simp [OT.fit] at hf
  | cons d r=>
   simp only [OT.fit] at hf
   split at hf
   ·rename_i e;subst e;cases hf
    cases l with
    | nil=>simp at hl
    | cons x l=>
     simp only [List.map_cons,List.cons.injEq] at hl
     obtain ⟨xd,xs⟩:=x
     dsimp only at hl
     obtain ⟨rfl,hl⟩:=hl
     simp only [OT.inst]
     refine ⟨trivial,hl,fun h=>(by cases h),fun k2 k3 ho u h=>?_⟩
     obtain ⟨a,cap,rfl,hle,h⟩:=h
     refine ⟨a,cap,rfl,hle,?_⟩
     rcases h with rfl | ⟨b,c,T,rfl,h1,h2,h3,h4⟩
     ·exact .inl rfl
     ·exact .inr ⟨b,c,T,rfl,ho b h1,h2,h3,fun j x hx=>(h4 j x hx).on fun a ha v hv=>Zp6 (fun e=>hN (hr e)) a ha v hv⟩
   ·cases hf
 | .map k v,ds,ds',l,hr,hf,hl=>by
  cases ds with
  | nil=>simp [OT.fit] at hf
  | cons d r=>
   simp only [OT.fit] at hf
   split at hf
   ·rename_i e;subst e;cases hf
    cases l with
    | nil=>simp at hl
    | cons x l=>
     simp only [List.map_cons,List.cons.injEq] at hl
     obtain ⟨xd,xs⟩:=x
     dsimp only at hl
     obtain ⟨rfl,hl⟩:=hl
     simp only [OT.inst]
     refine ⟨trivial,hl,fun h=>(by cases h),fun k2 k3 ho u h=>?_⟩
     obtain ⟨r,ents,clock,rfl,h1,h2,h3,h4⟩:=h
     exact ⟨r,ents,clock,rfl,ho r h1,h2,h3,h4⟩
   ·cases hf
theorem ZiV (ρ:Nat→Nat):∀(ts:List OT) (l:List Dat),(OT.insts ρ ts l).length=ts.length
 | [],l=>rfl
 | t::ts,l=>by simp [OT.insts,ZiV ρ ts]
theorem ZtW (hι:∀j u,ι2 j=some u→ι3 (ρ j)=some u) (hN:ro=true→∀b,N2 b→N3 b):∀(ts:List OT) (ds ds':List DT) (l:List Dat),(anyL OT.hasRo ts=true→ro=true)→OT.fits ts ds=some ds'→l.map (·.d)=ds→
  ∀k,(ZcR (OT.insts (fun j=>j) ts l) k=.dead→ZcR (OT.insts ρ ts l) k=.dead)∧
  ∀keep2 keep3:Nat→Prop,(∀b,own N2 keep2 b→own N3 keep3 b)→∀u,ObR ι2 N2 keep2 w u (ZcR (OT.insts (fun j=>j) ts l) k)→ObR ι3 N3 keep3 w u (ZcR (OT.insts ρ ts l) k)
 | [],ds,ds',l,hr,hf,hl,k=>by simp only [OT.insts];exact ⟨fun h=>h,fun _ _ _ u h=>by cases k<;>exact h⟩
 | t::ts,ds,ds',l,hr,hf,hl,k=>by
  simp only [OT.fits] at hf
  split at hf
  ·rename_i ds1 h1
   obtain ⟨a1,a2,a3,a4⟩:=ot_ren (w:=w) hι hN t ds ds1 l (fun h=>hr (by simp [anyL,h])) h1 hl
   have ih:=ZtW hι hN ts ds1 ds' _ (fun h=>hr (by simp [anyL,h])) hf a2
   simp only [OT.insts]
   rw [a1]
   cases k with
   | zero=>exact ⟨a3,a4⟩
   | succ k=>exact ih k
  ·cases hf
end
section
variable {h g:Nat→Ob}
theorem ZjY:∀(d e:ZbC) (h:Nat→Ob),Zd9 h (d++e)=Zd9 (Zd9 h d) e
 | [],e,h=>rfl
 | (i,o)::d,e,h=>by simp only [List.cons_append,Zd9];exact ZjY d e _
theorem Zld (m:M):∀(n j k:Nat) (g:Nat→Ob),Zd9 g (m.gone j n) k=.dead∨(Zd9 g (m.gone j n) k=g k∧∀j',j≤j'→j'<j+n→ZeE m.ren j'≠some k)
 | 0,j,k,g=>.inr ⟨rfl,fun j' h1 h2=>by omega⟩
 | n+1,j,k,g=>by
  simp only [M.gone]
  split
  ·rename_i i hi
   simp only [Zd9]
   rcases Zld m n (j+1) k (upd g i .dead) with e | ⟨e,hn⟩
   ·exact .inl e
   ·by_cases ek:k=i
    ·left;rw [e];simp [upd,ek]
    ·refine .inr ⟨by rw [e];simp [upd,ek],fun j' h1 h2=>?_⟩
     by_cases ej:j'=j
     ·subst ej;rw [hi];simp;exact fun x=>ek x.symm
     ·exact hn j' (by omega) (by omega)
  ·rename_i hi
   rcases Zld m n (j+1) k g with e | ⟨e,hn⟩
   ·exact .inl e
   ·refine .inr ⟨e,fun j' h1 h2=>?_⟩
    by_cases ej:j'=j
    ·subst ej;rw [hi];simp
    ·exact hn j' (by omega) (by omega)
theorem Zk5:∀(l:List Nat) (k:Nat) (g:Nat→Ob),(k∈l→Zd9 g (ZqQ l) k=.dead)∧(k∉l→Zd9 g (ZqQ l) k=g k)
 | [],k,g=>⟨fun h=>by simp at h,fun _=>rfl⟩
 | i::l,k,g=>by
  simp only [ZqQ,Zd9]
  have ih:=Zk5 l k (upd g i .dead)
  refine ⟨fun hk=>?_,fun hk=>?_⟩
  ·by_cases hl:k∈l
   ·exact ih.1 hl
   ·simp only [List.mem_cons,hl,or_false] at hk
    rw [ih.2 hl];simp [upd,hk]
  ·simp only [List.mem_cons,not_or] at hk
   rw [ih.2 hk.2];simp [upd,hk.1]
theorem ZoT (act:Nat→Nat):∀(out:Ziy) (j0 k:Nat) (g:Nat→Ob),
  (∃j,j<out.length∧act (j0+j)=k∧Zd9 g (Zvp act j0 out) k=ZcR out j)∨((∀j,j<out.length→act (j0+j)≠k)∧Zd9 g (Zvp act j0 out) k=g k)
 | [],j0,k,g=>.inr ⟨fun j h=>by simp at h,rfl⟩
 | o::out,j0,k,g=>by
  simp only [Zvp,Zd9]
  rcases ZoT act out (j0+1) k (upd g (act j0) o) with ⟨j,h1,h2,h3⟩ | ⟨h1,h2⟩
  ·exact .inl ⟨j+1,by simp;exact h1,by rw [←h2];congr 1;omega,h3⟩
  ·by_cases ek:k=act j0
   ·exact .inl ⟨0,by simp,ek.symm,by rw [h2];simp [upd,ek,ZcR]⟩
   ·refine .inr ⟨fun j hj=>?_,by rw [h2];simp [upd,ek]⟩
    cases j with
    | zero=>exact fun e=>ek e.symm
    | succ j=>have:=h1 j (by simpa using hj);rwa [show j0+(j+1)=j0+1+j by omega]
theorem ZoU (act:Nat→Nat):∀(out:Ziy) (j0 k:Nat),k∈Za2 (Zvp act j0 out)↔∃j,j<out.length∧act (j0+j)=k
 | [],j0,k=>by simp [Zvp,Za2]
 | o::out,j0,k=>by
  simp only [Zvp,Za2,List.mem_cons,ZoU act out]
  constructor
  ·rintro (rfl | ⟨j,h1,h2⟩)
   ·exact ⟨0,by simp,rfl⟩
   ·exact ⟨j+1,by simpa using h1,by rw [←h2];congr 1;omega⟩
  ·rintro ⟨j,h1,h2⟩
   cases j with
   | zero=>exact .inl h2.symm
   | succ j=>exact .inr ⟨j,by simpa using h1,by rw [←h2];congr 1;omega⟩
theorem Zew (d e:ZbC):Za2 (d++e)=Za2 d++Za2 e:=by simp [Zha]
theorem Zrf:∀(d:ZbC) (k:Nat) (g:Nat→Ob),(∀x,x∈d→∃t,x.2=.arr t [])→k∈Za2 d→∃t,Zd9 g d k=.arr t []
 | [],k,g,_,hk=>by simp [Za2] at hk
 | (i,o)::d,k,g,hx,hk=>by
  simp only [Zd9]
  by_cases hm:k∈Za2 d
  ·exact Zrf d k _ (fun x h=>hx x (by simp [h])) hm
  ·rw [ZdM d hm]
   simp only [Za2,List.mem_cons,hm,or_false] at hk
   obtain ⟨t,e⟩:=hx (i,o) (by simp)
   exact ⟨t,by simp [upd,hk];exact e⟩
end
section
variable {E:Env} {ι:Nat→Option Value} {N:Nat→Prop} {h:Nat→Ob} {w:World} {nid:Nat}
theorem ObR.other {N keep keep':Nat→Prop} {val:Value} {o:Ob} (ho:ObR ι N keep w val o) (hk:∀b,ZbF val=some b→own N keep b→own N keep' b):ObR ι N keep' w val o:=by
 cases o with
 | dead=>trivial
 | box cs=>
  obtain ⟨b,o,c,T,rfl,h1,h2,h3⟩:=ho
  exact ⟨b,o,c,T,rfl,hk b rfl h1,h2,h3⟩
 | arr t xs=>
  obtain ⟨a,cap,rfl,hle,ho⟩:=ho
  refine ⟨a,cap,rfl,hle,?_⟩
  rcases ho with rfl | ⟨b,c,T,rfl,h1,h2,h3,h4⟩
  ·exact .inl rfl
  ·by_cases hc:cap=0
   ·exact .inl hc
   ·exact .inr ⟨b,c,T,rfl,hk b (by simp [ZbF,hc]) h1,h2,h3,h4⟩
 | map kt vt es=>
  obtain ⟨r,ents,clock,rfl,h1,h2,h3,h4⟩:=ho
  exact ⟨r,ents,clock,rfl,hk r rfl h1,h2,h3,h4⟩
theorem ZuX {S:ZaT} {args:List AV} {d:Den S.ids} {m:M} (H:S.enter args h nid=some (d,m)):MOk h nid m:=by
 unfold ZaT.enter at H
 have o0:MOk h nid ⟨[],[],nid,[],[]⟩:=⟨fun j j' i e=>by simp [ZeE] at e,fun j i e=>by simp [ZeE] at e,fun x hx=>by simp at hx,fun i hi=>by simp at hi,Nat.le_refl _⟩
 split at H
 ·rename_i m1 hm1
  have o1:=ZjG _ _ _ _ hm1 o0
  split at H
  ·rename_i m2 hm2
   have o2:=(OT.mts_both (nid0:=nid) _ _ _ _ hm2).2 o1
   cases hok:m2.ok (ZaI S.ihp) with
   | false=>rw [hok] at H;simp at H
   | true=>
    rw [hok] at H;simp only [cond_true] at H
    split at H
    ·simp only [Option.some.injEq,Prod.mk.injEq] at H
     obtain ⟨_,rfl⟩:=H
     exact o2
    ·cases H
  ·cases H
 ·cases H
theorem Den.list_types:∀(ds:List DT) (d:Den ds),(Den.list ds d).map (·.d)=ds
 | [],d=>rfl
 | [a],d=>rfl
 | a::b::r,d=>by simp only [Den.list,List.map_cons];rw [Den.list_types (b::r)]
theorem Zq1 (R:Zcd E ι N h w) {S:ZaT} {args:List AV} {vs:List Value} (hv:VRL ι N w args vs) {d:Den S.ids} {m:M} (H:S.enter args h nid=some (d,m))
  (fresh:∀k,k∈Za2 m.add→ι k=none) :
  MOk h nid m∧Zn0 m.ren m.frz=true∧(∀j i,ZeE m.ren j=some i→j<S.ihp.length∧i<m.nid)∧
  ∃as l,Tp.insts (fun j=>j) S.args (Den.list S.ids d)=(as,l)∧VRL (ZlP ι m) (Zr0 ι N m) w as vs∧
   (∀k,ZcR (OT.insts (fun j=>j) S.ihp l) k≠.dead→∃i u,ZeE m.ren k=some i∧Zoj ι m.add i=some u∧ObR (ZlP ι m) (Zr0 ι N m) E.keep w u (ZcR (OT.insts (fun j=>j) S.ihp l) k)∧(u=.slice none 0 0∨(h i≠.dead∧ι i=some u))):=by
 unfold ZaT.enter at H
 have o0:MOk h nid ⟨[],[],nid,[],[]⟩:=⟨fun j j' i e=>by simp [ZeE] at e,fun j i e=>by simp [ZeE] at e,fun x hx=>by simp at hx,fun i hi=>by simp at hi,Nat.le_refl _⟩
 split at H
 ·rename_i m1 hm1
  have o1:=ZjG _ _ _ _ hm1 o0
  split at H
  ·rename_i m2 hm2
   have o2:=(OT.mts_both (nid0:=nid) _ _ _ _ hm2).2 o1
   have x2:=(OT.mts_both (nid0:=nid) _ _ _ _ hm2).1
   cases hok:m2.ok (ZaI S.ihp) with
   | false=>rw [hok] at H;simp at H
   | true=>
    rw [hok] at H;simp only [cond_true] at H
    unfold M.ok at hok
    simp only [Bool.and_eq_true] at hok
    split at H
    ·rename_i d' hd
     simp only [Option.some.injEq,Prod.mk.injEq] at H
     obtain ⟨rfl,rfl⟩:=H
     have I:=img R o2 fresh
     obtain ⟨_,n1,as,d1,i1,r1⟩:=Ze4 I _ _ _ _ vs hm1 x2 hv
     obtain ⟨n2,d2,r2⟩:=ZkJ R o2 fresh hok.1 _ _ _ _ hm2 (.refl _) o1
     have hds:Den.list S.ids d'=n1++n2:=by
      rw [Den.of_list hd,ZiO,d2,d1];simp
     refine ⟨o2,hok.1,fun j i e=>by have:=ZiQ hok.2 j i e;rwa [Zbi] at this,as,n2,by rw [hds];exact i1 n2,r1,fun k hk=>?_⟩
     have:=(r2 []).2 k (by simpa using hk)
     simpa using this
    ·cases H
  ·cases H
 ·cases H
open Classical in
theorem Ztk (R:Zcd E ι N h w) {f:Nat} {S:ZaT} (hS:Zah E.P E.C f S) {args:List AV} {vs:Array Value} (hv:VRL ι N w args vs.toList) {d:Den S.ids} {m:M}
  (H:S.enter args h nid=some (d,m)) {r:Den S.out.ds} (hF:S.F d=some r) (fresh:∀k,k∈Za2 (S.leave m r).2→nid≤k→ι k=none) :
  OpR E.P (callFunc f vs) w fun val w'=>∃ι' N',Zvs E ι N h w nid (S.leave m r).1 (S.leave m r).2 val w' ι' N':=by
 obtain ⟨hwf,hS⟩:=hS
 have om:=ZuX H
 have hd:(S.leave m r).2=Ztq m.add []++(m.gone 0 (ZaI S.ihp)++(Zvp (m.actual S.keep) 0 (OT.insts (m.actual S.keep) S.out.hp (S.out.res.inst (m.actual S.keep) (Den.list S.out.ds r)).2)++
   cond S.out.hasRo (ZqQ m.frz) [])):=by simp only [ZaT.leave,ZdE]
 have hv1:(S.leave m r).1=(S.out.res.inst (m.actual S.keep) (Den.list S.out.ds r)).1:=rfl
 generalize (S.leave m r).1=v at *
 generalize (S.leave m r).2=dl at *
 have keyAdd:∀k,k∈Za2 (Ztq m.add [])↔k∈Za2 m.add:=fun k=>by rw [ZiO,Zha,Zha];simp
 have addDl:∀k,k∈Za2 m.add→k∈Za2 dl:=fun k hk=>by rw [hd,Zew];exact List.mem_append_left _ ((keyAdd k).2 hk)
 have addRng:∀k,k∈Za2 m.add→nid≤k∧k<m.nid:=fun k hk=>by
  obtain ⟨o,ho⟩:=ZgK.1 hk
  exact (om.add _ ho).2
 have freshAdd:∀k,k∈Za2 m.add→ι k=none:=fun k hk=>fresh k (addDl k hk) (addRng k hk).1
 obtain ⟨-,hz,hrng,as,l,hinsts,hva,hob⟩:=Zq1 R hv H freshAdd
 let H0:Nat→Ob:=fun i=>if (∃j,ZeE m.ren j=some i)∨i∈m.frz then h i else .dead
 have hH0:∀i,H0 i=h i∨H0 i=.dead:=fun i=>by
  by_cases c:(∃j,ZeE m.ren j=some i)∨i∈m.frz
  ·exact .inl (if_pos c)
  ·exact .inr (if_neg c)
 have Rc:=ZuF R om freshAdd hz hob
 have Rp:=R.part hH0
 have R1:Zcd (E.part ι h H0 w) (ZlP ι m) (Zr0 ι N m) (ZcR (OT.insts (fun j=>j) S.ihp l)) w:=by
  refine ⟨fun k hk=>?_,Rc.sep,Rc.nlt,Rp.klt,Rp.pres,Rc.glob⟩
  obtain ⟨i,u,e1,e2,e3,e4⟩:=hob k hk
  refine ⟨u,by simp [ZlP,e1,e2],e3.other fun b hb ow=>⟨ow.1,?_⟩⟩
  rintro (hk | ⟨i',v',h1,h2,h3,h4⟩)
  ·exact ow.2 hk
  ·rcases e4 with rfl | ⟨e5,e6⟩
   ·simp [ZbF] at hb
   ·have hne:i≠i':=by
     rintro rfl
     have:H0 i=h i:=if_pos (.inl ⟨k,e1⟩)
     rw [this] at h2;exact h1 h2
    exact R.sep i i' b hne e5 h1 (by rw [e6];exact hb) (by rw [h3];exact h4)
 have new1:∀i,S.ihp.length≤i→ZlP ι m i=none:=fun i hi=>by
  cases e:ZeE m.ren i with
  | none=>simp [ZlP,e]
  | some q=>exact absurd (hrng i q e).1 (by omega)
 refine OpR.mono (hS d r hF (E.part ι h H0 w) rfl rfl (ZlP ι m) (Zr0 ι N m) w vs as l hinsts hva R1 new1) fun val w' hp=>?_
 obtain ⟨ι2,N2,v2,l2,hinst,hvr,R2,new2,G⟩:=hp
 simp only [ZaT.wf,Bool.and_eq_true] at hwf
 obtain ⟨hkeep,hfit⟩:=hwf
 have hkeep:S.keep≤S.ihp.length:=by have:=Nat.le_of_ble_eq_true hkeep;rwa [Zbi] at this
 obtain ⟨ds1,hf1,ds2,hf2⟩:∃ds1,Tp.fit S.out.res S.out.ds=some ds1∧∃ds2,OT.fits S.out.hp ds1=some ds2:=by
  revert hfit
  cases e1:Tp.fit S.out.res S.out.ds with
  | none=>simp
  | some ds1=>
   intro hfit
   exact ⟨ds1,rfl,Option.isSome_iff_exists.1 hfit⟩
 let ι3:Nat→Option Value:=fun k=>if k<nid then ι k else if k<m.nid then Zoj ι m.add k else if k-m.nid+S.keep<S.out.hp.length then ι2 (k-m.nid+S.keep) else ι k
 let N3:Nat→Prop:=fun b=>N2 b∧(S.out.hasRo=true∨¬∃i u,i∈m.frz∧ι i=some u∧ZbF u=some b)
 have live2:∀j u,ι2 j=some u→j<S.out.hp.length:=fun j u e=>by
  rcases Nat.lt_or_ge j S.out.hp.length with h | h
  ·exact h
  ·rw [new2 j h] at e;cases e
 have addLow:∀k,k<nid→Zoj ι m.add k=ι k:=fun k hk=>by
  unfold Zoj
  split
  ·rename_i hm;have:=(addRng k hm).1;omega
  ·rfl
 have hnid:=om.nid
 have hι:∀j u,ι2 j=some u→ι3 (m.actual S.keep j)=some u:=fun j u e=>by
  have hj:=live2 j u e
  by_cases hk:j<S.keep
  ·have e':=(G.loc j hk).symm.trans e
   unfold ZlP at e'
   cases hr:ZeE m.ren j with
   | none=>rw [hr] at e';cases e'
   | some i=>
    rw [hr] at e'
    change Zoj ι m.add i=some u at e'
    have hact:m.actual S.keep j=i:=by
     unfold M.actual
     have:Nat.blt j S.keep=true:=by rw [Nat.blt_eq];exact hk
     rw [this,hr];rfl
    have hi:=(hrng j i hr).2
    rw [hact]
    by_cases hlow:i<nid
    ·simp only [ι3,hlow,if_true];rw [←addLow i hlow];exact e'
    ·simp only [ι3,hlow,hi,if_true,if_false];exact e'
  ·have hact:m.actual S.keep j=m.nid+(j-S.keep):=by
    unfold M.actual
    have:Nat.blt j S.keep=false:=by
     cases hb:Nat.blt j S.keep with
     | false=>rfl
     | true=>rw [Nat.blt_eq] at hb;exact absurd hb hk
    rw [this];rfl
   rw [hact]
   have a1:¬m.nid+(j-S.keep)<nid:=by omega
   have a2:¬m.nid+(j-S.keep)<m.nid:=by omega
   have a3:m.nid+(j-S.keep)-m.nid+S.keep=j:=by omega
   simp only [ι3,a1,a2,if_false,a3,hj,if_true];exact e
 have hN3:S.out.hasRo=true→∀b,N2 b→N3 b:=fun hr b hb=>⟨hb,.inl hr⟩
 obtain ⟨i1,i2,i3⟩:=ZrX (w:=w') hι hN3 S.out.res _ _ _ (fun e=>by simp [Out.hasRo,e]) hf1 (Den.list_types S.out.ds r)
 rw [hinst] at i1 i3
 change l2=_ at i1
 rw [←i1] at hd i2
 have ren:=ZtW (w:=w') hι hN3 S.out.hp ds1 ds2 l2 (fun e=>by simp [Out.hasRo,e]) hf2 i2
 have inRange:∀k,m.nid≤k→k-m.nid+S.keep<S.out.hp.length→k∈Za2 dl:=fun k h1 h2=>by
  rw [hd,Zew,Zew,Zew]
  refine List.mem_append_right _ (List.mem_append_right _ (List.mem_append_left _ ((ZoU _ _ _ _).2 ⟨k-m.nid+S.keep,by rw [ZiV];exact h2,?_⟩)))
  unfold M.actual
  have:Nat.blt (0+(k-m.nid+S.keep)) S.keep=false:=by
   cases hb:Nat.blt (0+(k-m.nid+S.keep)) S.keep with
   | false=>rfl
   | true=>rw [Nat.blt_eq] at hb;omega
  rw [this];simp only [cond_false];omega
 have loc3:∀k u,ι k=some u→ι3 k=some u:=fun k u e=>by
  by_cases h1:k<nid
  ·simp only [ι3,h1,if_true];exact e
  ·by_cases h2:k<m.nid
   ·simp only [ι3,h1,h2,if_true,if_false]
    unfold Zoj
    split
    ·rename_i hm;rw [freshAdd k hm] at e;cases e
    ·exact e
   ·by_cases h3:k-m.nid+S.keep<S.out.hp.length
    ·have:=fresh k (inRange k (by omega) h3) (by omega)
     rw [this] at e;cases e
    ·simp only [ι3,h1,h2,h3,if_false];exact e
 have frzOwn:∀i u b,i∈m.frz→ι i=some u→ZbF u=some b→own N E.keep b:=fun i u b hi hu hb=>by
  obtain ⟨t,xs,hx⟩:=om.frz i hi
  exact (R.blk_lt (by rw [hx];simp) hu hb).1
 have L:ZcE ι N w ι3 N3 w':=⟨loc3,fun b hb=>⟨G.ro b (.inl hb),.inr fun ⟨i,u,h1,h2,h3⟩=>(frzOwn i u b h1 h2 h3).1 hb⟩,fun b hb=>G.mem b (.inl hb)⟩
 have cls:∀k,Zd9 h dl k≠.dead→(∃j,m.actual S.keep j=k∧Zd9 h dl k=ZcR (OT.insts (m.actual S.keep) S.out.hp l2) j∧ZcR (OT.insts (fun j=>j) S.out.hp l2) j≠.dead)∨
   (∃t,Zd9 h dl k=.arr t []∧ι3 k=some (.slice none 0 0))∨
   (Zd9 h dl k=h k∧h k≠.dead∧(¬∃j,ZeE m.ren j=some k)∧(k∈m.frz→S.out.hasRo=false)):=by
  intro k hk
  rw [hd,ZjY,ZjY,ZjY] at hk ⊢
  generalize hA:Zd9 h (Ztq m.add [])=gA at hk ⊢
  generalize hB:Zd9 gA (m.gone 0 (ZaI S.ihp))=gB at hk ⊢
  generalize hC:Zd9 gB (Zvp (m.actual S.keep) 0 (OT.insts (m.actual S.keep) S.out.hp l2))=gC at hk ⊢
  have hD:Zd9 gC (cond S.out.hasRo (ZqQ m.frz) []) k=gC k∧(k∈m.frz→S.out.hasRo=false):=by
   cases hr:S.out.hasRo with
   | false=>exact ⟨rfl,fun _=>rfl⟩
   | true=>
    rw [hr] at hk
    simp only [cond_true] at hk ⊢
    by_cases hm:k∈m.frz
    ·exact absurd ((Zk5 m.frz k gC).1 hm) hk
    ·exact ⟨(Zk5 m.frz k gC).2 hm,fun x=>absurd x hm⟩
  rw [hD.1] at hk ⊢
  rcases ZoT (m.actual S.keep) (OT.insts (m.actual S.keep) S.out.hp l2) 0 k gB with ⟨j,h1,h2,h3⟩ | ⟨h1,h2⟩
  ·rw [hC] at h3
   rw [Nat.zero_add] at h2
   exact .inl ⟨j,h2,h3,fun e=>hk (h3.trans ((ren j).1 e))⟩
  ·rw [hC] at h2
   rw [h2] at hk ⊢
   rcases Zld m (ZaI S.ihp) 0 k gA with e | ⟨e,hn⟩
   ·rw [hB] at e;exact absurd e hk
   ·rw [hB] at e
    rw [e] at hk ⊢
    by_cases hm:k∈Za2 m.add
    ·obtain ⟨t,ht⟩:=Zrf (Ztq m.add []) k h (fun x hx=>(om.add x (by rw [ZiO] at hx;simpa using hx)).1) ((keyAdd k).2 hm)
     rw [hA] at ht
     refine .inr (.inl ⟨t,ht,?_⟩)
     have hr:=addRng k hm
     have a1:¬k<nid:=by omega
     simp only [ι3,a1,hr.2,if_true,if_false,Zoj,hm]
    ·have:gA k=h k:=by rw [←hA];exact ZdM _ fun x=>hm ((keyAdd k).1 x)
     rw [this] at hk ⊢
     refine .inr (.inr ⟨rfl,hk,?_,hD.2⟩)
     rintro ⟨j,hj⟩
     exact hn j (Nat.zero_le _) (by rw [Zbi];have:=(hrng j k hj).1;omega) hj
 have rest:∀k u b,h k≠.dead→(¬∃j,ZeE m.ren j=some k)→ι k=some u→ZbF u=some b→(k∈m.frz∧Zr0 ι N m b)∨(k∉m.frz∧Zq8 E ι h H0 b):=fun k u b h1 h2 h3 h4=>by
  by_cases hm:k∈m.frz
  ·exact .inl ⟨hm,.inr ⟨k,u,hm,h3,h4⟩⟩
  ·refine .inr ⟨hm,.inr ⟨k,u,h1,if_neg (fun c=>c.elim h2 hm),h3,h4⟩⟩
 have ownOut:∀b,own N2 (Zq8 E ι h H0) b→own N3 E.keep b:=fun b ow=>⟨fun x=>ow.1 x.1,fun x=>ow.2 (.inl x)⟩
 have notBoth:∀k u b,h k≠.dead→(¬∃j,ZeE m.ren j=some k)→ι k=some u→ZbF u=some b→¬own N2 (Zq8 E ι h H0) b:=fun k u b h1 h2 h3 h4 ow=>by
  rcases rest k u b h1 h2 h3 h4 with ⟨_,x⟩ | ⟨_,x⟩
  ·exact ow.1 (G.ro b x)
  ·exact ow.2 x
 refine ⟨ι3,N3,by rw [hv1];exact i3 val hvr,L,⟨fun k hk=>?_,fun k k' b e hk hk' hb hc=>?_,fun b hb=>R2.nlt b hb.1,fun b hb=>R2.klt b (.inl hb),?_,fun g hg=>?_⟩,fun k=>?_,fun b hb=>?_⟩
 ·rcases cls k hk with ⟨j,h1,h2,h3⟩ | ⟨t,h1,h2⟩ | ⟨h1,h2,h3,h4⟩
  ·obtain ⟨u,hu,ho⟩:=R2.ob j h3
   refine ⟨u,by rw [←h1];exact hι j u hu,?_⟩
   rw [h2]
   exact (ren j).2 _ _ ownOut u ho
  ·refine ⟨_,h2,?_⟩
   rw [h1]
   exact ⟨none,0,rfl,Nat.le_refl _,.inl rfl⟩
  ·obtain ⟨u,hu,ho⟩:=R.ob k h2
   refine ⟨u,loc3 k u hu,?_⟩
   rw [h1]
   refine ho.keep L (fun b hb ow=>⟨fun x=>?_,ow.2⟩) fun b hb=>?_
   ·rcases rest k u b h2 h3 hu hb with ⟨hm,_⟩ | ⟨hm,ha⟩
    ·rcases x.2 with y | y
     ·rw [h4 hm] at y;cases y
     ·exact y ⟨k,u,hm,hu,hb⟩
    ·rcases G.bound b x.1 with y | y
     ·rcases y with y | ⟨i,z,q1,q2,q3⟩
      ·exact ow.1 y
      ·have hne:k≠i:=fun e=>hm (e ▸ q1)
       obtain ⟨t,xs,hx⟩:=om.frz i q1
       exact R.sep k i b hne h2 (by rw [hx];simp) (by rw [hu];exact hb) (by rw [q2];exact q3)
     ·exact y ha
   ·rcases rest k u b h2 h3 hu hb with ⟨_,x⟩ | ⟨_,x⟩
    ·exact G.mem b x
    ·exact R2.pres.mem b x
 ·have blkA:∀j k u,ZcR (OT.insts (fun j=>j) S.out.hp l2) j≠.dead→m.actual S.keep j=k→ι3 k=some u→ι2 j=some u:=fun j k u h1 h2 h3=>by
   obtain ⟨u',hu',_⟩:=R2.ob j h1
   have:=hι j u' hu'
   rw [h2,h3] at this
   cases this;exact hu'
  cases e3:ι3 k with
  | none=>rw [e3] at hb;cases hb
  | some u=>
   rw [e3] at hb
   change ZbF u=some b at hb
   cases e3':ι3 k' with
   | none=>rw [e3'] at hc;cases hc
   | some u'=>
    rw [e3'] at hc
    change ZbF u'=some b at hc
    rcases cls k hk with ⟨j,h1,h2,h3⟩ | ⟨t,h1,h2⟩ | ⟨h1,h2,h3,h4⟩
    ·have q:=blkA j k u h3 h1 e3
     have ow:own N2 (Zq8 E ι h H0) b:=(R2.blk_lt h3 q hb).1
     rcases cls k' hk' with ⟨j',h1',h2',h3'⟩ | ⟨t',h1',h2'⟩ | ⟨h1',h2',h3',h4'⟩
     ·have q':=blkA j' k' u' h3' h1' e3'
      have hne:j≠j':=fun x=>e (by rw [←h1,←h1',x])
      exact R2.sep j j' b hne h3 h3' (by rw [q];exact hb) (by rw [q'];exact hc)
     ·rw [e3'] at h2';cases h2';simp [ZbF] at hc
     ·obtain ⟨z,hz',_⟩:=R.ob k' h2'
      have:=loc3 k' z hz'
      rw [e3'] at this;cases this
      exact notBoth k' u' b h2' h3' hz' hc ow
    ·rw [e3] at h2;cases h2;simp [ZbF] at hb
    ·obtain ⟨z,hz',_⟩:=R.ob k h2
     have:=loc3 k z hz'
     rw [e3] at this;cases this
     rcases cls k' hk' with ⟨j',h1',h2',h3'⟩ | ⟨t',h1',h2'⟩ | ⟨h1',h2',h3',h4'⟩
     ·have q':=blkA j' k' u' h3' h1' e3'
      exact notBoth k u b h2 h3 hz' hb (R2.blk_lt h3' q' hc).1
     ·rw [e3'] at h2';cases h2';simp [ZbF] at hc
     ·obtain ⟨z',hz2,_⟩:=R.ob k' h2'
      have:=loc3 k' z' hz2
      rw [e3'] at this;cases this
      exact R.sep k k' b e h2 h2' (by rw [hz'];exact hb) (by rw [hz2];exact hc)
 ·have q:=R2.pres
  exact ⟨q.os.trans R.pres.os,q.tape.trans R.pres.tape,q.output.trans R.pres.output,Nat.le_trans R.pres.size q.size,fun b hb=>(q.mem b (.inl hb)).trans (R.pres.mem b hb)⟩
 ·obtain ⟨n,c,T,fz,hc,hx⟩:=R.glob g hg
  exact ⟨L.ro g n,c,T,fz,(L.mem g n).trans hc,hx.mono fun a v ⟨x,y⟩=>⟨VRc.mono L.ro L.mem x,y⟩⟩
 ·by_cases h1:k<nid
  ·left;simp only [ι3,h1,if_true]
  ·by_cases h2:k<m.nid
   ·by_cases hm:k∈Za2 m.add
    ·exact .inr ⟨by omega,addDl k hm⟩
    ·left;simp only [ι3,h1,h2,if_true,if_false,Zoj,hm]
   ·by_cases h3:k-m.nid+S.keep<S.out.hp.length
    ·exact .inr ⟨by omega,inRange k (by omega) h3⟩
    ·left;simp only [ι3,h1,h2,h3,if_false]
 ·rcases G.bound b hb.1 with x | x
  ·rcases x with x | ⟨i,u,h1,h2,h3⟩
   ·exact .inl x
   ·exact .inr (frzOwn i u b h1 h2 h3).2
  ·exact .inr fun y=>x (.inl y)
structure ZjV (P:Program) (C:Ctx) (H:Hnd):Prop where
 nat:∀{ρ:Type} (f:Nat) (args:List AV) (h:Nat→Ob) (nid:Nat) (K:AV→ZbC→Option ρ),H.run f args h nid K=(H.run f args h nid pr).bind (on K)
 sound:∀(f:Nat) (args:List AV) (h:Nat→Ob) (nid:Nat) (v:AV) (d:ZbC),H.run f args h nid pr=some (v,d)→∀(E:Env),E.P=P→E.C=C→∀(ι:Nat→Option Value) (N:Nat→Prop) (w:World) (vs:Array Value),
  Zcd E ι N h w→VRL ι N w args vs.toList→(∀k,k∈Za2 d→nid≤k→ι k=none)→OpR P (callFunc f vs) w fun val w'=>∃ι' N',Zvs E ι N h w nid v d val w' ι' N'
theorem ZlE {ρ:Type} (args:List AV) (h:Nat→Ob) (nid:Nat) (K:AV→ZbC→Option ρ):∀(l:List ZaT),Zn9 args h nid K l=(Zn9 args h nid pr l).bind (on K)
 | []=>rfl
 | S::l=>by
  simp only [Zn9]
  split
  ·split
   ·cases S.F _<;>rfl
   ·rename_i S' l'
    cases S.F _ with
    | some r=>rfl
    | none=>exact ZlE args h nid K (S'::l')
  ·exact ZlE args h nid K l
theorem ZhP {P:Program} {C:Ctx} {f:Nat} {args:List AV} {v:AV} {d:ZbC}:∀(l:List ZaT),(∀S,S∈l→Zah P C f S)→Zn9 args h nid pr l=some (v,d)→∀(E:Env),E.P=P→E.C=C→∀(ι:Nat→Option Value) (N:Nat→Prop) (w:World) (vs:Array Value),
  Zcd E ι N h w→VRL ι N w args vs.toList→(∀k,k∈Za2 d→nid≤k→ι k=none)→OpR P (callFunc f vs) w fun val w'=>∃ι' N',Zvs E ι N h w nid v d val w' ι' N'
 | [],_,H,_,_,_,_,_,_,_,_,_,_=>by simp [Zn9] at H
 | S::l,hS,H,E,e1,e2,ι,N,w,vs,R,hv,fr=>by
  simp only [Zn9] at H
  split at H
  ·rename_i dd m hen
   have fin:∀{r},S.F dd=some r→pr (S.leave m r).1 (S.leave m r).2=some (v,d)→OpR P (callFunc f vs) w fun val w'=>∃ι' N',Zvs E ι N h w nid v d val w' ι' N':=fun {r} hF H=>by
    simp only [pr,Option.some.injEq,Prod.mk.injEq] at H
    obtain ⟨rfl,rfl⟩:=H
    subst e1 e2
    exact Ztk R (hS S (by simp)) hv hen hF fr
   cases l with
   | nil=>
    dsimp only at H
    cases hF:S.F dd with
    | none=>rw [hF] at H;cases H
    | some r=>rw [hF] at H;exact fin hF H
   | cons S' l'=>
    dsimp only at H
    cases hF:S.F dd with
    | none=>rw [hF] at H;exact ZhP (S'::l') (fun S h=>hS S (by simp at h ⊢;exact .inr h)) H E e1 e2 ι N w vs R hv fr
    | some r=>rw [hF] at H;exact fin hF H
  ·exact ZhP l (fun S h=>hS S (by simp [h])) H E e1 e2 ι N w vs R hv fr
theorem hnd_ok {P:Program} {C:Ctx} {spec:Nat→List ZaT} (hS:∀f S,S∈spec f→Zah P C f S):ZjV P C (hnd spec):=
 ⟨fun f args h nid K=>ZlE args h nid K (spec f),fun f args h nid v d H=>ZhP (spec f) (hS f) H⟩
theorem OpR.of_calls {P:Program} {f:FuncId} {fn:Func} {vs:Array Value} {w:World} {R:Value→World→Prop} (hf:P.funcs[f]? = some fn) (hn:(fn.name == "runtime.NumGoroutine")=false) (hb:fn.body.isNone=false)
  (h:Calls P f vs w fun e w''=>∃val,e=.returned val∧R val w''):OpR P (callFunc f vs) w R:=by
 refine .inr (.inl ⟨f,vs,?_,h⟩)
 unfold callFunc
 simp only [Sem.run_bind,run_program,Result.andThen_ok,hf,hn,hb,Bool.false_eq_true,if_false,Sem.run_pure]
theorem Zt6 {C:Ctx} {op:Op} {av:Operand→AV} {v:AV} {d:ZbC} (hn:ZvT op=true) (H:Zdn C op av h nid pr=some (v,d)):nid∈Za2 d:=by
 have key:∀{v' d'},pr v' d'=some (v,d)→nid∈Za2 d'→nid∈Za2 d:=fun e hm=>by
  simp only [pr,Option.some.injEq,Prod.mk.injEq] at e
  rw [←e.2];exact hm
 have kc:∀{b:Bool} {x:Option (AV×ZbC)},cond b x none=some (v,d)→x=some (v,d):=fun {b x} e=>by cases b<;>simp_all
 have kc':∀{b:Bool} {x:Option (AV×ZbC)},cond b none x=some (v,d)→x=some (v,d):=fun {b x} e=>by cases b<;>simp_all
 cases op<;>simp only [ZvT] at hn<;>try (cases hn;done)
 case alloc t=>
  simp only [Zdn] at H
  exact key (kc' H) (by simp [Za2])
 case makeMap t x=>
  cases x with
  | some x=>simp [Zdn] at H
  | none=>
   simp only [Zdn] at H
   split at H
   ·split at H
    ·exact key (kc H) (by simp [Za2])
    ·cases H
   ·cases H
 case box t x=>
  simp only [Zdn] at H
  split at H
  ·exact key H (by simp [Za2])
  ·cases H
 case buildSlice t n ps=>
  simp only [Zdn] at H
  split at H
  ·split at H
   ·have H:=kc H
    split at H
    ·split at H
     ·exact key H (by rw [ZdE,Zew];simp [Za2])
     ·cases H
    ·cases H
   ·cases H
  ·cases H
 case makeSlice t l c=>
  simp only [Zdn] at H
  split at H
  ·split at H
   ·have H:=(Za6 (kc H)).2
    exact key H (by simp [Za2])
   ·cases H
  ·cases H
 case call c=>
  obtain ⟨cal,args,tys⟩:=c
  cases cal<;>try (cases hn;done)
  rename_i b
  cases b<;>try (cases hn;done)
  simp only [Zdn] at H
  split at H
  all_goals first | contradiction | skip
  all_goals
   split at H
   ·split at H
    ·have H:=kc H
     unfold ZxB at H
     split at H
     ·split at H
      ·split at H
       ·split at H
        ·split at H
         ·exact key (Za6 H).2 (by simp [Za2])
         ·cases H
        ·cases H
       ·exact key (Za6 H).2 (by simp [Za2])
       ·cases H
      ·cases H
     ·cases H
    ·cases H
   ·cases H
theorem ZpS (T:Zgn E.P E.C) {H:Hnd} (hH:ZjV E.P E.C H) (R:Zcd E ι N h w) {av:Operand→AV} {ev:Operand→Value} (hv:∀x,VR ι N w (av x) (ev x)) {o:Oper} {v:AV} {d:ZbC}
  (Ho:Zhv E.C H o av h nid pr=some (v,d)) (fresh:∀k,k∈Za2 d→nid≤k→ι k=none):OpR E.P (execOp ev o) w fun val w'=>∃ι' N',Zvs E ι N h w nid v d val w' ι' N':=by
 unfold Zhv at Ho
 split at Ho
 ·rename_i f args tys hop
  split at Ho
  ·rename_i f' first cap hf
   have hfv:=hv f
   rw [hf] at hfv
   simp only [VR] at hfv
   obtain ⟨fs,cs,hfv,h1,h2⟩:=hfv
   have hargs:VRL ι N w (args.toList.map av) (args.map ev).toList:=by
    rw [Array.toList_map]
    generalize args.toList=l
    induction l with
    | nil=>simp [VRL]
    | cons x l ih=>simp only [List.map_cons,VRL];exact ⟨hv x,ih⟩
   have:=hH.sound f' _ h nid v d Ho E rfl rfl ι N w (fs++args.map ev++cs) R (by
    simp only [ZdE,Zxh,Array.toList_append,List.append_assoc]
    exact h1.append (hargs.append h2)) fresh
   have hrun:∀w,(execOp ev o).run E.P w=(callFunc f' (fs++args.map ev++cs)).run E.P w:=fun w=>by
    simp [execOp,hop,resolve,hfv,Deferred.ofValue,invoke,Sem.run_bind,Sem.run_pure]
   unfold OpR at this ⊢
   rw [hrun w]
   exact this
  ·cases Ho
 ·have hn:ZvT o.op=true→ι nid=none:=fun e=>fresh nid (Zt6 e Ho) (Nat.le_refl _)
  obtain ⟨v',d',e,r⟩:=Ztf (K:=pr) T R hv hn Ho
  simp only [pr,Option.some.injEq,Prod.mk.injEq] at e
  obtain ⟨rfl,rfl⟩:=e
  exact r.opR R fun hm=>fresh nid (by rw [Zha];exact hm) (Nat.le_refl _)
end
end Ev
end
section
namespace Ev
open Go
theorem ZlK (e:Edge):Zg0 e=Region.binds .any e:=by
 unfold Zg0 Region.binds
 cases e.ground<;>rfl
theorem Zqc (acc:List Nat) (i:Nat):∀(es:List Edge) (s j:Nat),Nat.testBit (ZxC acc i es s) j=true→
  Nat.testBit s j=true∨∃e,e∈es∧Zg0 e=true∧e.on<i∧(e.on=j∨Nat.testBit (ZnX acc e.on) j=true)
 | [],s,j,h=>.inl h
 | e::r,s,j,h=>by
  simp only [ZxC] at h
  rcases Zqc acc i r _ j h with h | ⟨e',h1,h2⟩
  ·cases hb:(Zg0 e&&Nat.blt e.on i) with
   | false=>rw [hb] at h;exact .inl h
   | true=>
    rw [hb] at h
    simp only [cond_true] at h
    simp only [Bool.and_eq_true,Nat.blt_eq] at hb
    have h:Nat.testBit (s ||| (2^e.on ||| ZnX acc e.on)) j=true:=h
    rw [Nat.testBit_or,Nat.testBit_or,Nat.testBit_two_pow] at h
    simp only [Bool.or_eq_true,decide_eq_true_eq] at h
    rcases h with h | h | h
    ·exact .inl h
    ·exact .inr ⟨e,by simp,hb.1,hb.2,.inl h⟩
    ·exact .inr ⟨e,by simp,hb.1,hb.2,.inr h⟩
  ·exact .inr ⟨e',by simp [h1],h2⟩
theorem Zle:∀(l:List Nat) (n:Nat),ZnX l n=l.getD n 0
 | [],n=>by cases n<;>rfl
 | a::l,0=>rfl
 | a::l,n+1=>by simp [ZnX,Zle l n]
theorem ZqU (l m:List Nat) (n:Nat) (h:n<l.length):ZnX (l++m) n=ZnX l n:=by
 rw [Zle,Zle];simp [List.getD,List.getElem?_append_left h]
def Zra (all:List Oper) (A:List Nat) (k:Nat):Prop:=
 ∀j,Nat.testBit (ZnX A k) j=true→j<k∧∃o e,all[k]? = some o∧e∈o.after.toList∧Zg0 e=true∧e.on<k∧(e.on=j∨Nat.testBit (ZnX A e.on) j=true)
theorem Zqb (all:List Oper):∀(ops:List Oper) (i:Nat) (acc:List Nat),acc.length=i→(∀j,ops[j]? = all[i+j]?)→(∀k,k<i→Zra all acc k)→
  ∀k,Zra all (Zvr ops i acc) k
 | [],i,acc,hl,ho,hg,k=>by
  simp only [Zvr]
  rcases Nat.lt_or_ge k i with h | h
  ·exact hg k h
  ·intro j hj
   rw [Zle] at hj
   have:acc.getD k 0=0:=by simp [List.getD,List.getElem?_eq_none (by omega:acc.length≤k)]
   rw [this] at hj;simp at hj
 | o::r,i,acc,hl,ho,hg,k=>by
  simp only [Zvr,ZdE]
  have ext:∀n,n<i→ZnX (acc++[ZxC acc i o.after.toList 0]) n=ZnX acc n:=fun n hn=>ZqU _ _ n (by omega)
  have last:ZnX (acc++[ZxC acc i o.after.toList 0]) i=ZxC acc i o.after.toList 0:=by
   rw [Zle];simp [List.getD,←hl]
  refine Zqb all r (i+1) _ (by simp [hl]) (fun j=>by have:=ho (j+1);simp at this;rw [this];congr 1;omega) (fun k hk=>?_) k
  have ho0:all[i]? = some o:=by have:=ho 0;simpa using this.symm
  by_cases e:k=i
  ·subst e
   intro j hj
   rw [last] at hj
   rcases Zqc acc k _ _ j hj with h | ⟨e,h1,h2,h3,h4⟩
   ·simp at h
   ·have lt:j<k:=by
     rcases h4 with h4 | h4
     ·omega
     ·have:=(hg e.on h3 j h4).1;omega
    refine ⟨lt,o,e,ho0,h1,h2,h3,h4.imp id fun h=>?_⟩
    rw [ext _ h3];exact h
  ·have hk':k<i:=by omega
   intro j hj
   rw [ext k hk'] at hj
   obtain ⟨h1,o',e',h2,h3,h4,h5,h6⟩:=hg k hk' j hj
   exact ⟨h1,o',e',h2,h3,h4,h5,h6.imp id fun h=>by rw [ext _ (by omega)];exact h⟩
theorem ZwF (all:List Oper) (k:Nat):Zra all (Zvr all 0 []) k:=
 Zqb all all 0 [] rfl (fun j=>by simp) (fun k hk=>by omega) k
theorem ZhQ {A:List Nat} {i j:Nat}:ZcD A i j=true↔i≠j∧Nat.testBit (ZnX A i) j=false∧Nat.testBit (ZnX A j) i=false:=by
 unfold ZcD
 simp only [Bool.and_eq_true,Bool.not_eq_true']
 rw [and_assoc]
 constructor
 ·rintro ⟨h1,h2,h3⟩
  refine ⟨fun e=>?_,h2,h3⟩
  subst e;simp at h1
 ·rintro ⟨h1,h2,h3⟩
  refine ⟨?_,h2,h3⟩
  cases hb:Nat.beq i j with
  | false=>rfl
  | true=>exact absurd (Nat.eq_of_beq_eq_true hb) h1
theorem ZjS {A:List Nat} {i j:Nat} (h:ZcD A i j=true):ZcD A j i=true:=by
 rw [ZhQ] at h ⊢
 exact ⟨h.1.symm,h.2.2,h.2.1⟩
theorem Zkb:∀(ops:List Oper) (n:Nat),Zdu ops n=(ops[n]?).bind (·.dst)
 | [],n=>by cases n<;>rfl
 | o::r,0=>rfl
 | o::r,n+1=>by simp [Zdu,Zkb r n]
structure Ent where
 v:AV
 d:ZbC
 run:Bool
section
variable (all:List Oper) (fr0:List AV) (h0:Ziy) (es:Nat→Ent)
def frD (D:Nat→Bool):Nat→List AV
 | 0=>fr0
 | m+1=>cond (D m) (ZjE (frD D m) (Zdu all m) (es m).v) (frD D m)
def hL:Nat→Ziy
 | 0=>h0
 | m+1=>apD (hL m) (es m).d
def hD (D:Nat→Bool):Nat→Nat→Ob
 | 0=>ZcR h0
 | m+1=>cond (D m) (Zd9 (hD D m) (es m).d) (hD D m)
def Zfb:Nat→List Zqf
 | 0=>[]
 | m+1=>cond (es m).run (⟨m,Za2 (es m).d,ZaI (hL h0 es m)⟩::Zfb m) (Zfb m)
end
def yes:Nat→Bool:=fun _=>true
def Zvk (all:List Oper) (F:List AV) (o:Oper):Bool→Prop
 | true=>o.guard=none∨∃j want t,o.guard=some (j,want)∧Zdu all j=some t∧Zdt F t=.bool want
 | false=>∃j want t,o.guard=some (j,want)∧Zdu all j=some t∧(Zdt F t=.bool (!want)∨Zdt F t=.tup [])
structure ZwX (C:Ctx) (H:Hnd) (O:ZdL) (all:List Oper) (fr0:List AV) (h0:Ziy) (es:Nat→Ent) (i:Nat) (o:Oper):Prop where
 want:Zvk all (O.fr all i (frD all fr0 es yes i)) o (es i).run
 ran:(es i).run=true→Zhv C H o (opnd (O.fr all i (frD all fr0 es yes i))) (O.hp i (Zfb h0 es i) (ZcR (hL h0 es i))) (ZaI (hL h0 es i)) pr=some ((es i).v,(es i).d)∧
  O.ok i (Zfb h0 es i) (es i).d=true
 not:(es i).run=false→(es i).v=.tup []∧(es i).d=[]
section
variable {all:List Oper} {fr0:List AV} {h0:Ziy} {es es':Nat→Ent} {C:Ctx} {H:Hnd} {O:ZdL}
theorem Zil {D:Nat→Bool}:∀{m:Nat},(∀j,j<m→es j=es' j)→frD all fr0 es D m=frD all fr0 es' D m
 | 0,_=>rfl
 | m+1,h=>by simp only [frD];rw [Zil fun j hj=>h j (by omega),h m (by omega)]
theorem Zik:∀{m:Nat},(∀j,j<m→es j=es' j)→hL h0 es m=hL h0 es' m
 | 0,_=>rfl
 | m+1,h=>by simp only [hL];rw [Zik fun j hj=>h j (by omega),h m (by omega)]
theorem ZiZ:∀{m:Nat},(∀j,j<m→es j=es' j)→Zfb h0 es m=Zfb h0 es' m
 | 0,_=>rfl
 | m+1,h=>by simp only [Zfb];rw [ZiZ fun j hj=>h j (by omega),Zik fun j hj=>h j (by omega),h m (by omega)]
theorem ZoB (fr:List AV) (t:Nat) {v:AV} (h:Zdt fr t=v):ZoC fr t v=fr:=by
 subst h
 rw [Zdq,Zdk]
 rcases Nat.lt_or_ge t fr.length with h | h
 ·simp [List.getD,List.getElem?_eq_getElem h]
 ·rw [List.set_eq_of_length_le h]
theorem Zhs (fr:List AV) (d t:Nat):Zdt (ZoC fr d .undef) t=.undef∨(t≠d∧Zdt (ZoC fr d .undef) t=Zdt fr t):=by
 rw [Zdq,Zdk,Zdk]
 by_cases e:t=d
 ·subst e
  left
  rcases Nat.lt_or_ge t fr.length with h | h
  ·simp [List.getD,h]
  ·simp [List.getD,h]
 ·right
  exact ⟨e,by simp [List.getD,List.getElem?_set_ne (Ne.symm e)]⟩
theorem Znd (A:List Nat) (i t:Nat):∀(ops:List Oper) (j:Nat) (fr:List AV),
  Zdt (ZlH A i ops j fr) t=.undef∨(Zdt (ZlH A i ops j fr) t=Zdt fr t∧∀k,Zdu ops k=some t→ZcD A i (j+k)=false)
 | [],j,fr=>.inr ⟨rfl,fun k hk=>by cases k<;>simp [Zdu] at hk⟩
 | o::r,j,fr=>by
  simp only [ZlH]
  have step:∀fr',(Zdt fr' t=.undef∨(Zdt fr' t=Zdt fr t∧(o.dst=some t→ZcD A i j=false)))→
    Zdt (ZlH A i r (j+1) fr') t=.undef∨(Zdt (ZlH A i r (j+1) fr') t=Zdt fr t∧∀k,Zdu (o::r) k=some t→ZcD A i (j+k)=false):=fun fr' h=>by
   rcases Znd A i t r (j+1) fr' with h1 | ⟨h1,h2⟩
   ·exact .inl h1
   ·rcases h with h | ⟨h,h3⟩
    ·left;rw [h1,h]
    ·refine .inr ⟨h1.trans h,fun k hk=>?_⟩
     cases k with
     | zero=>exact h3 hk
     | succ k=>have:=h2 k hk;rwa [show j+1+k=j+(k+1) by omega] at this
  cases hd:o.dst with
  | none=>exact step fr (.inr ⟨rfl,fun e=>by rw [hd] at e;cases e⟩)
  | some d=>
   cases hb:ZcD A i j with
   | false=>exact step fr (.inr ⟨rfl,fun _=>hb⟩)
   | true=>
    simp only [cond_true]
    rcases Zhs fr d t with h | ⟨h1,h2⟩
    ·exact step _ (.inl h)
    ·exact step _ (.inr ⟨h2,fun e=>by rw [hd] at e;cases e;exact absurd rfl h1⟩)
def ZdL.beside (O:ZdL) (i j:Nat):Prop:=O.draw=true∧ZcD O.A i j=true
theorem ZdL.fr_get (O:ZdL) (i t:Nat) (fr:List AV):Zdt (O.fr all i fr) t=.undef∨(Zdt (O.fr all i fr) t=Zdt fr t∧∀k,Zdu all k=some t→¬O.beside i k):=by
 unfold ZdL.fr ZdL.beside
 cases O.draw with
 | false=>exact .inr ⟨rfl,fun k _ h=>by simp at h⟩
 | true=>
  rcases Znd O.A i t all 0 fr with h | ⟨h1,h2⟩
  ·exact .inl h
  ·refine .inr ⟨h1,fun k hk hb=>?_⟩
   have:=h2 k hk
   rw [Nat.zero_add] at this
   rw [this] at hb;cases hb.2
theorem Zte {P:Program} (hH:ZjV P C H) {ρ:Type} (o:Oper) (av:Operand→AV) (h:Nat→Ob) (nid:Nat) (K:AV→ZbC→Option ρ) :
  Zhv C H o av h nid K=(Zhv C H o av h nid pr).bind (on K):=by
 unfold Zhv
 split
 ·split
  ·exact hH.nat _ _ _ _ K
  ·rfl
 ·exact Zwp _ _ _ _ _ _
theorem Zr9 {P:Program} (hH:ZjV P C H) {ρ:Type} {K:List AV→Ziy→List Zqf→Option ρ} {r:ρ}:∀(ops:List Oper) (i:Nat) (pre:Nat→Ent),(∀j,ops[j]? = all[i+j]?)→
  Zlo C H O all ops i (frD all fr0 pre yes i) (hL h0 pre i) (Zfb h0 pre i) K=some r→
  ∃es:Nat→Ent,(∀j,j<i→es j=pre j)∧(∀j o,ops[j]? = some o→ZwX C H O all fr0 h0 es (i+j) o)∧
   K (frD all fr0 es yes (i+ops.length)) (hL h0 es (i+ops.length)) (Zfb h0 es (i+ops.length))=some r
 | [],i,pre,ho,H1=>⟨pre,fun _ _=>rfl,fun j o h=>by simp at h,by simpa [Zlo] using H1⟩
 | o::ops,i,pre,ho,H1=>by
  have ho':∀j,ops[j]? = all[i+1+j]?:=fun j=>by have:=ho (j+1);simp at this;rw [this];congr 1;omega
  have hdst:Zdu all i=o.dst:=by rw [Zkb];have:=ho 0;simp at this;rw [←this];rfl
  have more:∀e:Ent,Zvk all (O.fr all i (frD all fr0 pre yes i)) o e.run→
    (e.run=true→Zhv C H o (opnd (O.fr all i (frD all fr0 pre yes i))) (O.hp i (Zfb h0 pre i) (ZcR (hL h0 pre i))) (ZaI (hL h0 pre i)) pr=some (e.v,e.d)∧O.ok i (Zfb h0 pre i) e.d=true)→
    (e.run=false→e.v=.tup []∧e.d=[])→
    Zlo C H O all ops (i+1) (ZjE (frD all fr0 pre yes i) o.dst e.v) (apD (hL h0 pre i) e.d) (cond e.run (⟨i,Za2 e.d,ZaI (hL h0 pre i)⟩::Zfb h0 pre i) (Zfb h0 pre i)) K=some r→
    ∃es:Nat→Ent,(∀j,j<i→es j=pre j)∧(∀j o',(o::ops)[j]? = some o'→ZwX C H O all fr0 h0 es (i+j) o')∧
     K (frD all fr0 es yes (i+(o::ops).length)) (hL h0 es (i+(o::ops).length)) (Zfb h0 es (i+(o::ops).length))=some r:=by
   intro e hw hr hn H2
   let pre':Nat→Ent:=fun j=>if j=i then e else pre j
   have hp:∀j,j<i→pre' j=pre j:=fun j hj=>by simp only [pre'];rw [if_neg (by omega)]
   have hpi:pre' i=e:=by simp [pre']
   have e1:frD all fr0 pre' yes (i+1)=ZjE (frD all fr0 pre yes i) o.dst e.v:=by
    simp only [frD,yes,cond_true,hpi,hdst]
    rw [Zil hp]
   have e2:hL h0 pre' (i+1)=apD (hL h0 pre i) e.d:=by simp only [hL,hpi];rw [Zik hp]
   have e3:Zfb h0 pre' (i+1)=cond e.run (⟨i,Za2 e.d,ZaI (hL h0 pre i)⟩::Zfb h0 pre i) (Zfb h0 pre i):=by
    simp only [Zfb,hpi];rw [Zik hp,ZiZ hp]
   obtain ⟨es,a1,a2,a3⟩:=Zr9 hH ops (i+1) pre' ho' (by rw [e1,e2,e3];exact H2)
   have hes:∀j,j<i→es j=pre j:=fun j hj=>(a1 j (by omega)).trans (hp j hj)
   have hesi:es i=e:=(a1 i (by omega)).trans hpi
   refine ⟨es,hes,fun j o' hj=>?_,by rw [show i+(o::ops).length=i+1+ops.length by simp;omega];exact a3⟩
   cases j with
   | zero=>
    simp at hj;subst hj
    simp only [Nat.add_zero]
    refine ⟨?_,fun h=>?_,fun h=>?_⟩
    ·rw [hesi,Zil hes];exact hw
    ·rw [hesi] at h ⊢;rw [Zil hes,Zik hes,ZiZ hes];exact hr h
    ·rw [hesi] at h ⊢;exact hn h
   | succ j=>
    have:=a2 j o' (by simpa using hj)
    rwa [show i+1+j=i+(j+1) by omega] at this
  have goOk:Zvk all (O.fr all i (frD all fr0 pre yes i)) o true→
    (Zhv C H o (opnd (O.fr all i (frD all fr0 pre yes i))) (O.hp i (Zfb h0 pre i) (ZcR (hL h0 pre i))) (ZaI (hL h0 pre i)) fun v d=>
     cond (O.ok i (Zfb h0 pre i) d) (Zlo C H O all ops (i+1) (ZjE (frD all fr0 pre yes i) o.dst v) (apD (hL h0 pre i) d) (⟨i,Za2 d,(ZaI (hL h0 pre i))⟩::Zfb h0 pre i) K) none)=some r→
    ∃es:Nat→Ent,(∀j,j<i→es j=pre j)∧(∀j o',(o::ops)[j]? = some o'→ZwX C H O all fr0 h0 es (i+j) o')∧
     K (frD all fr0 es yes (i+(o::ops).length)) (hL h0 es (i+(o::ops).length)) (Zfb h0 es (i+(o::ops).length))=some r:=by
   intro hw H2
   rw [Zte hH] at H2
   cases hp:Zhv C H o (opnd (O.fr all i (frD all fr0 pre yes i))) (O.hp i (Zfb h0 pre i) (ZcR (hL h0 pre i))) (ZaI (hL h0 pre i)) pr with
   | none=>rw [hp] at H2;cases H2
   | some vd=>
    obtain ⟨v,d⟩:=vd
    rw [hp] at H2
    simp only [Option.bind_some,on] at H2
    cases hok:O.ok i (Zfb h0 pre i) d with
    | false=>rw [hok] at H2;simp at H2
    | true=>
     rw [hok] at H2;simp only [cond_true] at H2
     exact more ⟨v,d,true⟩ hw (fun _=>⟨hp,hok⟩) (fun h=>by cases h) H2
  have skipOk:Zvk all (O.fr all i (frD all fr0 pre yes i)) o false→
    Zlo C H O all ops (i+1) (ZjE (frD all fr0 pre yes i) o.dst (.tup [])) (hL h0 pre i) (Zfb h0 pre i) K=some r→
    ∃es:Nat→Ent,(∀j,j<i→es j=pre j)∧(∀j o',(o::ops)[j]? = some o'→ZwX C H O all fr0 h0 es (i+j) o')∧
     K (frD all fr0 es yes (i+(o::ops).length)) (hL h0 es (i+(o::ops).length)) (Zfb h0 es (i+(o::ops).length))=some r:=
   fun hw H2=>more ⟨.tup [],[],false⟩ hw (fun h=>by cases h) (fun _=>⟨rfl,rfl⟩) H2
  simp only [Zlo] at H1
  split at H1
  ·rename_i hg
   exact goOk (.inl hg) H1
  ·rename_i j want hg
   split at H1
   ·cases H1
   ·rename_i t ht
    split at H1
    ·rename_i b hb
     have hfr:Zdt (frD all fr0 pre yes i) t=.bool b:=by
      rcases O.fr_get (all:=all) i t (frD all fr0 pre yes i) with h | ⟨h,_⟩
      ·rw [hb] at h;cases h
      ·rw [←h];exact hb
     cases b with
     | true=>
      rw [ZoB _ t hfr] at H1
      cases want with
      | true=>exact goOk (.inr ⟨j,true,t,hg,ht,hb⟩) H1
      | false=>exact skipOk ⟨j,false,t,hg,ht,.inl hb⟩ H1
     | false=>
      simp only [cond_false] at H1
      rw [ZoB _ t hfr] at H1
      cases want with
      | true=>exact skipOk ⟨j,true,t,hg,ht,.inl hb⟩ H1
      | false=>exact goOk (.inr ⟨j,false,t,hg,ht,hb⟩) H1
    ·rename_i hb
     exact skipOk ⟨j,want,t,hg,ht,.inr hb⟩ H1
    ·cases H1
theorem Zi7 (D:Nat→Bool):∀m,(frD all fr0 es D m).length=fr0.length
 | 0=>rfl
 | m+1=>by
  simp only [frD]
  cases D m with
  | false=>exact Zi7 D m
  | true=>
   simp only [cond_true]
   unfold ZjE
   split
   ·exact Zi7 D m
   ·rw [Zdq,List.length_set];exact Zi7 D m
theorem ZuN (fr fr':List AV) (d:Option Nat) (v:AV) (t:Nat) (hl:fr.length=fr'.length) (h:d=some t∨Zdt fr t=Zdt fr' t):Zdt (ZjE fr d v) t=Zdt (ZjE fr' d v) t:=by
 unfold ZjE
 split
 ·rcases h with h | h
  ·cases h
  ·exact h
 ·rename_i v' d'
  simp only [Zdq,Zdk] at *
  by_cases e:d'=t
  ·subst e
   simp only [List.getD_eq_getElem?_getD,List.getElem?_set_self',hl]
   rcases Nat.lt_or_ge d' fr'.length with q | q
   ·rw [List.getElem?_eq_getElem q,List.getElem?_eq_getElem (by omega)];rfl
   ·rw [List.getElem?_eq_none q,List.getElem?_eq_none (by omega)]
  ·rcases h with h | h
   ·cases h;exact absurd rfl e
   ·simp only [List.getD_eq_getElem?_getD,List.getElem?_set_ne e] at *;exact h
theorem ZgS (fr:List AV) (d:Option Nat) (v:AV) (t:Nat) (h:d≠some t):Zdt (ZjE fr d v) t=Zdt fr t:=by
 unfold ZjE
 split
 ·rfl
 ·rename_i d'
  have e:d'≠t:=fun e=>h (by rw [e])
  simp only [Zdq,Zdk,List.getD_eq_getElem?_getD,List.getElem?_set_ne e]
theorem ZpM {D D':Nat→Bool} {t:Nat}:∀{m:Nat},(∀j,j<m→Zdu all j=some t→D j=D' j)→Zdt (frD all fr0 es D m) t=Zdt (frD all fr0 es D' m) t
 | 0,_=>rfl
 | m+1,h=>by
  have ih:=ZpM (m:=m) fun j hj=>h j (by omega)
  simp only [frD]
  by_cases e:Zdu all m=some t
  ·rw [h m (by omega) e]
   cases D' m with
   | false=>exact ih
   | true=>exact ZuN _ _ _ _ _ (by rw [Zi7,Zi7]) (.inl e)
  ·have:∀X:List AV,∀b:Bool,Zdt (cond b (ZjE X (Zdu all m) (es m).v) X) t=Zdt X t:=fun X b=>by
    cases b with
    | false=>rfl
    | true=>exact ZgS _ _ _ _ e
   rw [this,this];exact ih
theorem Zn1 {D:Nat→Bool} {t m:Nat}:∀{m':Nat},m≤m'→(∀j,m≤j→j<m'→Zdu all j=some t→D j=false)→Zdt (frD all fr0 es D m') t=Zdt (frD all fr0 es D m) t
 | 0,hm,_=>by
  have:m=0:=by omega
  subst this;rfl
 | m'+1,hm,h=>by
  by_cases e:m=m'+1
  ·subst e;rfl
  ·have ih:=Zn1 (m':=m') (by omega) fun j h1 h2=>h j h1 (by omega)
   simp only [frD]
   by_cases ed:Zdu all m'=some t
   ·rw [h m' (by omega) (by omega) ed];exact ih
   ·cases D m' with
    | false=>exact ih
    | true=>simp only [cond_true];rw [ZgS _ _ _ _ ed];exact ih
theorem Zr2 {D D':Nat→Bool} {k:Nat}:∀{m:Nat},(∀j,j<m→k∈Za2 (es j).d→D j=D' j)→hD h0 es D m k=hD h0 es D' m k
 | 0,_=>rfl
 | m+1,h=>by
  have ih:=Zr2 (m:=m) fun j hj=>h j (by omega)
  simp only [hD]
  by_cases e:k∈Za2 (es m).d
  ·rw [h m (by omega) e]
   cases D' m with
   | false=>exact ih
   | true=>exact Znp _ e
  ·have:∀X:Nat→Ob,∀b:Bool,cond b (Zd9 X (es m).d) X k=X k:=fun X b=>by
    cases b with
    | false=>rfl
    | true=>exact ZdM _ e
   rw [this,this];exact ih
theorem ZuL {D:Nat→Bool} {k m:Nat}:∀{m':Nat},m≤m'→(∀j,m≤j→j<m'→k∈Za2 (es j).d→D j=false)→hD h0 es D m' k=hD h0 es D m k
 | 0,hm,_=>by
  have:m=0:=by omega
  subst this;rfl
 | m'+1,hm,h=>by
  by_cases e:m=m'+1
  ·subst e;rfl
  ·have ih:=ZuL (m':=m') (by omega) fun j h1 h2=>h j h1 (by omega)
   simp only [hD]
   by_cases ed:k∈Za2 (es m').d
   ·rw [h m' (by omega) (by omega) ed];exact ih
   ·cases D m' with
    | false=>exact ih
    | true=>simp only [cond_true];rw [ZdM _ ed];exact ih
theorem ZuK:∀m,hD h0 es yes m=ZcR (hL h0 es m)
 | 0=>rfl
 | m+1=>by simp only [hD,hL,yes,cond_true];rw [Zr4,←ZuK m]
theorem ZnD:∀(l:Ziy) (i:Nat) (o:Ob),l.length≤(ZoA l i o).length∧i<(ZoA l i o).length
 | [],0,o=>by simp [ZoA]
 | [],i+1,o=>by have:=ZnD [] i o;simp only [ZoA,List.length_cons,List.length_nil] at *;omega
 | x::l,0,o=>by simp [ZoA]
 | x::l,i+1,o=>by have:=ZnD l i o;simp only [ZoA,List.length_cons] at *;omega
theorem ZlM:∀(d:ZbC) (l:Ziy),l.length≤(apD l d).length∧∀k,k∈Za2 d→k<(apD l d).length
 | [],l=>⟨Nat.le_refl _,fun k hk=>by simp [Za2] at hk⟩
 | (i,o)::d,l=>by
  have a:=ZnD l i o
  have b:=ZlM d (ZoA l i o)
  simp only [apD,Za2,List.mem_cons]
  refine ⟨by omega,fun k hk=>?_⟩
  rcases hk with rfl | hk
  ·omega
  ·exact b.2 k hk
theorem ZhJ:∀{m m':Nat},m≤m'→(hL h0 es m).length≤(hL h0 es m').length
 | m,0,h=>by
  have:m=0:=by omega
  subst this;exact Nat.le_refl _
 | m,m'+1,h=>by
  by_cases e:m=m'+1
  ·subst e;exact Nat.le_refl _
  ·exact Nat.le_trans (ZhJ (by omega)) (ZlM _ _).1
theorem Zh3:∀{l:List Nat} {n:Nat},Ztr l n=true↔n∈l
 | [],n=>by simp [Ztr]
 | a::l,n=>by
  simp only [Ztr,List.mem_cons]
  cases h:Nat.beq a n with
  | true=>simp [Nat.eq_of_beq_eq_true h]
  | false=>
   have:n≠a:=fun e=>by subst e;simp at h
   simp [this,Zh3]
theorem Zig (A:List Nat) (i:Nat):∀(lg:List Zqf) (l:List Nat) (k:Nat),(k∈l∨∃e,e∈lg∧ZcD A i e.ix=true∧k∈e.keys)→k∈ZuI A i lg l
 | [],l,k,h=>by
  rcases h with h | ⟨e,h,_⟩
  ·exact h
  ·simp at h
 | x::lg,l,k,h=>by
  simp only [ZuI]
  refine Zig A i lg _ k ?_
  rcases h with h | ⟨e,h,hb,hk⟩
  ·left;cases ZcD A i x.ix<;>simp [ZdE,h]
  ·cases h with
   | head=>left;rw [hb];simp [ZdE,hk]
   | tail _ h=>exact .inr ⟨e,h,hb,hk⟩
theorem ZmU (A:List Nat) (cm:Nat→List Nat) (i k:Nat):∀(lg:List Zqf),Zpy A cm i k lg=true→∀e,e∈lg→ZcD A i e.ix=true→k∈cm e.ix∨e.nid≤k
 | [],_,e,h,_=>by simp at h
 | x::lg,H,e,h,hb=>by
  simp only [Zpy] at H
  cases h with
  | head=>
   rw [hb] at H
   simp only [cond_true] at H
   cases hq:(Ztr (cm x.ix) k||Nat.ble x.nid k) with
   | false=>rw [hq] at H;simp at H
   | true=>
    simp only [Bool.or_eq_true] at hq
    exact hq.imp Zh3.1 Nat.le_of_ble_eq_true
  | tail _ h=>
   have:Zpy A cm i k lg=true:=by
    cases h1:ZcD A i x.ix with
    | false=>rw [h1] at H;exact H
    | true=>
     rw [h1] at H
     simp only [cond_true] at H
     cases hq:(Ztr (cm x.ix) k||Nat.ble x.nid k) with
     | false=>rw [hq] at H;simp at H
     | true=>rw [hq] at H;exact H
   exact ZmU A cm i k lg this e h hb
theorem Zgg (A:List Nat) (cm:Nat→List Nat) (i:Nat) (lg:List Zqf) (hid:List Nat):∀(ks:List Nat),ZrU A cm i lg hid ks=true→∀k,k∈ks→k∉hid∧Zpy A cm i k lg=true
 | [],_,k,h=>by simp at h
 | x::ks,H,k,h=>by
  simp only [ZrU] at H
  cases h1:Ztr hid x with
  | true=>rw [h1] at H;simp at H
  | false=>
   rw [h1] at H
   simp only [cond_false] at H
   cases h2:Zpy A cm i x lg with
   | false=>rw [h2] at H;simp at H
   | true=>
    rw [h2] at H
    simp only [cond_true] at H
    cases h with
    | head=>exact ⟨fun hm=>(by rw [Zh3.2 hm] at h1;cases h1),h2⟩
    | tail _ h=>exact Zgg A cm i lg hid ks H k h
theorem Zj4:∀{i j:Nat},j<i→(es j).run=true→(⟨j,Za2 (es j).d,ZaI (hL h0 es j)⟩:Zqf)∈Zfb h0 es i
 | 0,j,h,_=>by omega
 | i+1,j,h,hr=>by
  simp only [Zfb]
  by_cases e:j=i
  ·subst e;rw [hr];simp
  ·have:=Zj4 (i:=i) (j:=j) (by omega) hr
   cases (es i).run<;>simp [this]
def ins (D:Nat→Bool) (i:Nat):Nat→Bool:=fun j=>if j=i then true else D j
theorem ZtQ (fr:List AV) {d d':Option Nat} (v v':AV) (h:∀t,d=some t→d'≠some t):ZjE (ZjE fr d v) d' v'=ZjE (ZjE fr d' v') d v:=by
 cases d with
 | none=>rfl
 | some t=>
  cases d' with
  | none=>rfl
  | some t'=>
   have:t≠t':=fun e=>h t rfl (by rw [e])
   simp only [ZjE,Zdq]
   exact List.set_comm _ _ this
theorem Zi8 {D:Nat→Bool} {i:Nat} (hi:D i=false):∀{m:Nat},i<m→(∀j,i<j→j<m→D j=true→∀t,Zdu all i=some t→Zdu all j≠some t)→
  frD all fr0 es (ins D i) m=ZjE (frD all fr0 es D m) (Zdu all i) (es i).v
 | 0,h,_=>by omega
 | m+1,h,hw=>by
  simp only [frD]
  by_cases e:m=i
  ·subst e
   have h1:ins D m m=true:=by simp [ins]
   rw [h1,hi]
   simp only [cond_true,cond_false]
   congr 1
   have:∀q,q≤m→frD all fr0 es (ins D m) q=frD all fr0 es D q:=fun q=>by
    induction q with
    | zero=>intro _;rfl
    | succ q ih=>
     intro hq
     simp only [frD]
     rw [ih (by omega)]
     have:ins D m q=D q:=by simp only [ins];rw [if_neg (by omega)]
     rw [this]
   exact this m (Nat.le_refl _)
  ·have ih:=Zi8 hi (m:=m) (by omega) fun j h1 h2=>hw j h1 (by omega)
   have h1:ins D i m=D m:=by simp [ins,e]
   rw [h1,ih]
   cases hd:D m with
   | false=>rfl
   | true=>
    simp only [cond_true]
    exact ZtQ _ _ _ (hw m (by omega) (by omega) hd)
theorem Zlc {D:Nat→Bool} {i:Nat} (hi:D i=false):∀{m:Nat},i<m→(∀j,i<j→j<m→D j=true→∀k,k∈Za2 (es i).d→k∉Za2 (es j).d)→
  hD h0 es (ins D i) m=Zd9 (hD h0 es D m) (es i).d
 | 0,h,_=>by omega
 | m+1,h,hw=>by
  simp only [hD]
  by_cases e:m=i
  ·subst e
   have h1:ins D m m=true:=by simp [ins]
   rw [h1,hi]
   simp only [cond_true,cond_false]
   congr 1
   have:∀q,q≤m→hD h0 es (ins D m) q=hD h0 es D q:=fun q=>by
    induction q with
    | zero=>intro _;rfl
    | succ q ih=>
     intro hq
     simp only [hD]
     rw [ih (by omega)]
     have:ins D m q=D q:=by simp only [ins];rw [if_neg (by omega)]
     rw [this]
   exact this m (Nat.le_refl _)
  ·have ih:=Zlc hi (m:=m) (by omega) fun j h1 h2=>hw j h1 (by omega)
   have h1:ins D i m=D m:=by simp [ins,e]
   rw [h1,ih]
   cases hd:D m with
   | false=>rfl
   | true=>
    simp only [cond_true]
    funext k
    by_cases hk:k∈Za2 (es m).d
    ·have hk':k∉Za2 (es i).d:=fun x=>hw m (by omega) (by omega) hd k x hk
     rw [ZdM _ hk']
     exact Znp _ hk
    ·rw [ZdM _ hk]
     exact (ZiE _ (ZdM _ hk)).symm
end
end Ev
end
section
namespace Ev
open Go
structure Zix (E:Env) (keep:Nat) (ι:Nat→Option Value) (N:Nat→Prop) (st:St) (a:Act) (w:World):Prop where
 fr:VRL ι N w st.fr a.tmps.toList
 rep:Zcd E ι N (ZcR st.hp) w
 new:∀i,st.hp.length≤i→ι i=none
 kp:keep≤st.hp.length
structure ZxG (E:Env) (keep:Nat) (all:List Oper) (fr0:List AV) (h0:Ziy) (es:Nat→Ent) (n:Nat) (D:Nat→Bool) (ι0:Nat→Option Value) (N0:Nat→Prop) (w0:World) (df:List Deferred)
  (ι:Nat→Option Value) (N:Nat→Prop) (a:Act) (w:World):Prop where
 fr:VRL ι N w (frD all fr0 es D n) a.tmps.toList
 rep:Zcd E ι N (hD h0 es D n) w
 born:∀k,ι k≠none→k<h0.length∨∃i,i<n∧D i=true∧k∈Za2 (es i).d∧(hL h0 es i).length≤k
 grow:Znj E keep ι0 N0 w0 ι N w
 df:a.defers=df
theorem VRL.set {ι:Nat→Option Value} {N:Nat→Prop} {w:World}:∀{as:List AV} {vs:List Value},VRL ι N w as vs→∀(t:Nat) (a:AV) (v:Value),VR ι N w a v→VRL ι N w (as.set t a) (vs.set t v)
 | [],[],_,t,a,v,_=>by simp [VRL]
 | x::as,y::vs,h,0,a,v,hv=>by simp only [VRL] at h;simp only [List.set_cons_zero,VRL];exact ⟨hv,h.2⟩
 | x::as,y::vs,h,t+1,a,v,hv=>by simp only [VRL] at h;simp only [List.set_cons_succ,VRL];exact ⟨h.1,VRL.set h.2 t a v hv⟩
 | [],_::_,h,_,_,_,_=>by simp [VRL] at h
 | _::_,[],h,_,_,_,_=>by simp [VRL] at h
theorem VRL.put {ι:Nat→Option Value} {N:Nat→Prop} {w:World} {fr:List AV} {a:Act} (h:VRL ι N w fr a.tmps.toList) (d:Option Nat) {v:AV} {val:Value} (hv:VR ι N w v val) :
  VRL ι N w (ZjE fr d v) (a.put d val).tmps.toList:=by
 unfold ZjE Act.put
 cases d with
 | none=>exact h
 | some t=>
  simp only [Zdq,Array.toList_setIfInBounds]
  exact h.set t v val hv
theorem Zmp (a:Act) (d:Option Nat) (v:Value):(a.put d v).defers=a.defers:=by cases d<;>rfl
theorem Zp3 {ι:Nat→Option Value} {N:Nat→Prop} {w:World} {v:Value} {a:AV} (h:Zsd v=some a):VR ι N w a v∧v.oneCell'=true:=by
 unfold Zsd at h
 split at h<;>cases h<;>refine ⟨?_,rfl⟩<;>simp only [VR,ZwV]
theorem Zp1 {ι:Nat→Option Value} {N:Nat→Prop} {w:World}:∀{vs:List Value} {as:List AV},Zp2 vs=some as→VRL ι N w as vs∧∀x,x∈vs→x.oneCell'=true
 | [],as,h=>by simp only [Zp2,Option.some.injEq] at h;subst h;exact ⟨by simp only [VRL],fun x hx=>by simp at hx⟩
 | v::vs,as,h=>by
  simp only [Zp2] at h
  split at h
  ·rename_i a as' h1 h2
   cases h
   have q1:=Zp3 (ι:=ι) (N:=N) (w:=w) h1
   have q2:=Zp1 (ι:=ι) (N:=N) (w:=w) h2
   refine ⟨by simp only [VRL];exact ⟨q1.1,q2.1⟩,fun x hx=>?_⟩
   cases hx with
   | head=>exact q1.2
   | tail _ hx=>exact q2.2 x hx
  ·cases h
theorem Zu6 {ι:Nat→Option Value} {N:Nat→Prop} {w:World} (v:Value):VR ι N w (Zu7 v) v:=by
 unfold Zu7
 split
 ·rename_i cs
  split
  ·rename_i as h
   obtain ⟨q1,q2⟩:=Zp1 (ι:=ι) (N:=N) (w:=w) h
   simp only [VR]
   exact ⟨cs,rfl,q1,fun x hx=>q2 x hx⟩
  ·simp only [VR]
 ·split
  ·rename_i a h
   exact (Zp3 h).1
  ·simp only [VR]
theorem VRL.opnd {ι:Nat→Option Value} {N:Nat→Prop} {w:World} {fr F:List AV} {a:Act} (h:VRL ι N w fr a.tmps.toList) (hF:∀t,Zdt F t=.undef∨Zdt F t=Zdt fr t) (x:Operand) :
  VR ι N w (opnd F x) (a.eval x):=by
 cases x with
 | tmp t=>
  simp only [Ev.opnd,Act.eval]
  rcases hF t with e | e
  ·rw [e];simp only [VR]
  ·rw [e,Zdk]
   rcases Nat.lt_or_ge t fr.length with q | q
   ·obtain ⟨v,hv,hr⟩:=h.get t fr[t] (List.getElem?_eq_getElem q)
    have hv':a.tmps[t]? = some v:=by rw [←hv];simp
    simp only [List.getD_eq_getElem?_getD,List.getElem?_eq_getElem q,Option.getD_some]
    have:a.tmps.getD t undef=v:=by simp [hv']
    rw [this];exact hr
   ·simp only [List.getD_eq_getElem?_getD,List.getElem?_eq_none q,Option.getD_none,VR]
 | const v=>exact Zu6 v
 | global g=>simp only [Ev.opnd,Act.eval,VR]
 | func f=>simp only [Ev.opnd,Act.eval,VR];exact ⟨#[],#[],rfl,by simp [VRL],by simp [VRL]⟩
theorem VRL.slot {ι:Nat→Option Value} {N:Nat→Prop} {w:World} {fr F:List AV} {tmps:Array Value} (h:VRL ι N w fr tmps.toList) {t:Nat} (hF:Zdt F t=.undef∨Zdt F t=Zdt fr t) {x:AV} (hx:Zdt F t=x) (hu:x≠.undef) :
  ∃v,tmps[t]? = some v∧VR ι N w x v:=by
 subst hx
 rcases hF with e | e
 ·exact absurd e hu
 ·rw [e,Zdk] at hu ⊢
  rcases Nat.lt_or_ge t fr.length with q | q
  ·obtain ⟨v,hv,hr⟩:=h.get t fr[t] (List.getElem?_eq_getElem q)
   refine ⟨v,by rw [←hv];simp,?_⟩
   simp only [List.getD_eq_getElem?_getD,List.getElem?_eq_getElem q,Option.getD_some];exact hr
  ·simp only [List.getD_eq_getElem?_getD,List.getElem?_eq_none q,Option.getD_none] at hu
   exact absurd rfl hu
theorem Zty {ι:Nat→Option Value} {N:Nat→Prop} {w:World} {ops:Array Oper} {F fr:List AV} {tmps:Array Value} (h:VRL ι N w fr tmps.toList) (hF:∀t,Zdt F t=.undef∨Zdt F t=Zdt fr t)
  {o:Oper} {b:Bool} (hw:Zvk ops.toList F o b):Region.wanted o (yielded ops tmps)=b:=by
 have yl:∀j t,Zdu ops.toList j=some t→yielded ops tmps j=match tmps[t]? with | some (.bool b)=>some b | _=>none:=fun j t ht=>by
  rw [Zkb] at ht
  have:(ops[j]?).bind (·.dst)=some t:=by simpa using ht
  unfold yielded
  rw [this];rfl
 cases b with
 | true=>
  rcases hw with hg | ⟨j,want,t,hg,ht,hx⟩
  ·simp [Region.wanted,hg]
  ·obtain ⟨v,hv,hr⟩:=h.slot (hF t) hx (by simp)
   simp only [VR] at hr;subst hr
   simp [Region.wanted,hg,yl j t ht,hv]
 | false=>
  obtain ⟨j,want,t,hg,ht,hx⟩:=hw
  rcases hx with hx | hx
  ·obtain ⟨v,hv,hr⟩:=h.slot (hF t) hx (by simp)
   simp only [VR] at hr;subst hr
   simp [Region.wanted,hg,yl j t ht,hv]
  ·obtain ⟨v,hv,hr⟩:=h.slot (hF t) hx (by simp)
   simp only [VR] at hr
   obtain ⟨vs,rfl,_⟩:=hr
   simp [Region.wanted,hg,yl j t ht,hv]
section
variable {E:Env} {keep:Nat} {all:List Oper} {fr0:List AV} {h0:Ziy} {es:Nat→Ent} {H:Hnd} {O:ZdL} {ops:Array Oper}
theorem Zlt (A:List Nat) (i:Nat) (d:Option Nat):∀(l:List Oper) (j:Nat),Zlu A i d l j=true→∀k t,d=some t→Zdu l k=some t→ZcD A i (j+k)=false
 | [],j,_,k,t,_,hk=>by cases k<;>simp [Zdu] at hk
 | o::r,j,h,k,t,hd,hk=>by
  simp only [Zlu] at h
  have hr:Zlu A i d r (j+1)=true∧(Zwr d o.dst=true→ZcD A i j=false):=by
   cases h1:Zwr d o.dst with
   | false=>rw [h1] at h;exact ⟨h,fun x=>by cases x⟩
   | true=>
    rw [h1] at h
    simp only [cond_true] at h
    cases h2:ZcD A i j with
    | true=>rw [h2] at h;simp at h
    | false=>rw [h2] at h;exact ⟨h,fun _=>rfl⟩
  cases k with
  | zero=>
   simp only [Zdu] at hk
   refine hr.2 ?_
   rw [hd,hk];simp [Zwr]
  | succ k=>
   have:=Zlt A i d r (j+1) hr.1 k t hd hk
   rwa [show j+1+k=j+(k+1) by omega] at this
theorem Zm7 (A:List Nat) (all:List Oper):∀(l:List Oper) (i:Nat),Ztg A all l i=true→∀k t j,Zdu l k=some t→Zdu all j=some t→ZcD A (i+k) j=false
 | [],i,_,k,t,j,hk,_=>by cases k<;>simp [Zdu] at hk
 | o::r,i,h,k,t,j,hk,hj=>by
  simp only [Ztg] at h
  cases h1:Zlu A i o.dst all 0 with
  | false=>rw [h1] at h;simp at h
  | true=>
   rw [h1] at h
   cases k with
   | zero=>
    have:=Zlt A i o.dst all 0 h1 j t hk hj
    rwa [Nat.zero_add] at this
   | succ k=>
    have:=Zm7 A all r (i+1) h k t j hk hj
    rwa [show i+1+k=i+(k+1) by omega] at this
theorem ZtE (T:Zgn E.P E.C) (hH:ZjV E.P E.C H) (hops:ops.toList=all) (hat:∀i o,all[i]? = some o→ZwX E.C H O all fr0 h0 es i o) (hdst:O.draw=true→Ztg O.A all all 0=true)
  {D:Nat→Bool} {i:Nat} {o:Oper} (hi:all[i]? = some o) (hDi:D i=false) (P1:∀j,j<i→D j=false→O.beside i j) (P2:∀j,i<j→D j=true→O.beside i j)
  {ι0:Nat→Option Value} {N0:Nat→Prop} {w0:World} {df:List Deferred} {ι:Nat→Option Value} {N:Nat→Prop} {a:Act} {w:World} (hk0:keep≤h0.length)
  (I:ZxG E keep all fr0 h0 es all.length D ι0 N0 w0 df ι N a w) {Q:Exit→Act→World→Prop} {K:Act→World→Prop}
  (hK:∀ι' N' a' w',ZxG E keep all fr0 h0 es all.length (ins D i) ι0 N0 w0 df ι' N' a' w'→K a' w'):wpOp E.P ops Q i K a w:=by
 have hA:=hat i o hi
 have hin:i<all.length:=(List.getElem?_eq_some_iff.1 hi).1
 have hoi:ops[i]? = some o:=by rw [←hops] at hi;simpa using hi
 have hdi:Zdu all i=o.dst:=by rw [Zkb,hi];rfl
 have agreeF:∀t,Zdt (O.fr all i (frD all fr0 es yes i)) t=.undef∨Zdt (O.fr all i (frD all fr0 es yes i)) t=Zdt (frD all fr0 es D all.length) t:=fun t=>by
  rcases O.fr_get (all:=all) i t (frD all fr0 es yes i) with h | ⟨h,hn⟩
  ·exact .inl h
  ·right
   rw [h]
   rw [Zn1 (m:=i) (m':=all.length) (by omega) fun j h1 h2 h3=>?_]
   ·refine ZpM fun j hj ht=>?_
    cases hd:D j with
    | true=>rfl
    | false=>exact absurd (P1 j hj hd) (hn j ht)
   ·cases hd:D j with
    | false=>rfl
    | true=>
     have:i<j:=by
      rcases Nat.lt_or_ge i j with q | q
      ·exact q
      ·have:j=i:=by omega
       subst this;rw [hDi] at hd;cases hd
     exact absurd (P2 j this hd) (hn j h3)
 have hwant:=Zty (ops:=ops) I.fr agreeF (o:=o) (b:=(es i).run) (by rw [hops];exact hA.want)
 have hslot:∀j,i<j→j<all.length→D j=true→∀t,Zdu all i=some t→Zdu all j≠some t:=fun j h1 h2 h3 t h4 h5=>by
  have hb:=P2 j h1 h3
  have:=Zm7 O.A all all 0 (hdst hb.1) i t j h4 h5
  rw [Nat.zero_add,hb.2] at this;cases this
 unfold wpOp
 rw [hoi]
 dsimp only
 rw [hwant]
 cases hrun:(es i).run with
 | false=>
  obtain ⟨hv,hd⟩:=hA.not hrun
  simp only [Bool.false_eq_true,if_false]
  refine hK ι N _ w ⟨?_,?_,fun k hk=>?_,I.grow,by rw [Zmp];exact I.df⟩
  ·rw [Zi8 hDi hin hslot,hv,hdi]
   exact I.fr.put o.dst (by simp only [VR];exact ⟨#[],rfl,by simp [VRL]⟩)
  ·rw [Zlc hDi hin (fun j _ _ _ k hk=>by rw [hd] at hk;simp [Za2] at hk),hd]
   exact I.rep
  ·rcases I.born k hk with h | ⟨j,h1,h2,h3⟩
   ·exact .inl h
   ·exact .inr ⟨j,h1,by simp [ins,h2],h3⟩
 | true=>
  obtain ⟨hev,hok⟩:=hA.ran hrun
  simp only [if_true]
  left
  rw [Zbi] at hev
  have hidden:∀j k,k∈Za2 (es j).d→j<i→O.beside i j→k∈O.hid i (Zfb h0 es i):=fun j k hk hj hb=>by
   have hrj:(es j).run=true:=by
    cases hr:(es j).run with
    | true=>rfl
    | false=>
     have hjo:j<all.length:=by omega
     have:=((hat j all[j] (List.getElem?_eq_getElem hjo)).not hr).2
     rw [this] at hk;simp [Za2] at hk
   unfold ZdL.hid
   rw [hb.1]
   exact Zig _ _ _ _ _ (.inr ⟨_,Zj4 hj hrj,hb.2,hk⟩)
  have behind:∀j k,k∈Za2 (es j).d→i<j→j<all.length→O.beside i j→k∈O.hid i (Zfb h0 es i)∨(hL h0 es i).length≤k:=fun j k hk hj hjn hb=>by
   have hrj:(es j).run=true:=by
    cases hr:(es j).run with
    | true=>rfl
    | false=>
     have:=((hat j all[j] (List.getElem?_eq_getElem hjn)).not hr).2
     rw [this] at hk;simp [Za2] at hk
   have hokj:=((hat j all[j] (List.getElem?_eq_getElem hjn)).ran hrj).2
   unfold ZdL.ok at hokj
   rw [hb.1] at hokj
   have:=ZmU _ _ _ _ _ (Zgg _ _ _ _ _ _ hokj k hk).2 _ (Zj4 hj hrun) (ZjS hb.2)
   rcases this with h | h
   ·left
    unfold ZdL.hid
    rw [hb.1]
    exact Zig _ _ _ _ _ (.inl h)
   ·right;rw [Zbi] at h;exact h
  have agreeH:∀k,k∉O.hid i (Zfb h0 es i)→k<(hL h0 es i).length→ZcR (hL h0 es i) k=hD h0 es D all.length k:=fun k h1 h2=>by
   rw [ZuL (m:=i) (m':=all.length) (by omega) fun j q1 q2 q3=>?_]
   ·rw [←ZuK]
    refine Zr2 fun j hj hk=>?_
    cases hd:D j with
    | true=>rfl
    | false=>exact absurd (hidden j k hk hj (P1 j hj hd)) h1
   ·cases hd:D j with
    | false=>rfl
    | true=>
     have hij:i<j:=by
      rcases Nat.lt_or_ge i j with q | q
      ·exact q
      ·have:j=i:=by omega
       subst this;rw [hDi] at hd;cases hd
     rcases behind j k q3 hij q2 (P2 j hij hd) with h | h
     ·exact absurd h h1
     ·omega
  have hpk:∀k,O.hp i (Zfb h0 es i) (ZcR (hL h0 es i)) k=.dead∨(O.hp i (Zfb h0 es i) (ZcR (hL h0 es i)) k=ZcR (hL h0 es i) k∧k∉O.hid i (Zfb h0 es i)):=fun k=>by
   unfold ZdL.hp ZdL.hid
   cases O.draw with
   | false=>exact .inr ⟨rfl,by simp⟩
   | true=>
    simp only [cond_true,Zxf]
    cases hm:Ztr (ZuI O.A i (Zfb h0 es i) (O.cm i)) k with
    | true=>exact .inl rfl
    | false=>exact .inr ⟨rfl,fun x=>by rw [Zh3.2 x] at hm;cases hm⟩
  have hHle:∀k,O.hp i (Zfb h0 es i) (ZcR (hL h0 es i)) k=hD h0 es D all.length k∨O.hp i (Zfb h0 es i) (ZcR (hL h0 es i)) k=.dead:=fun k=>by
   rcases hpk k with h | ⟨h,hn⟩
   ·exact .inr h
   ·rcases Nat.lt_or_ge k (hL h0 es i).length with q | q
    ·left;rw [h];exact agreeH k hn q
    ·right;rw [h];exact ZnY _ _ q
  have hkeys:∀k,k∈Za2 (es i).d→k<(hL h0 es (i+1)).length:=fun k hk=>by simp only [hL];exact (ZlM _ _).2 k hk
  have fresh:∀k,k∈Za2 (es i).d→(hL h0 es i).length≤k→ι k=none:=fun k hk hn=>by
   cases hc:ι k with
   | none=>rfl
   | some u=>
    rcases I.born k (by rw [hc];simp) with h | ⟨j,h1,h2,h3,h4⟩
    ·have:=ZhJ (h0:=h0) (es:=es) (Nat.zero_le i)
     simp only [hL] at this;omega
    ·rcases Nat.lt_or_ge j i with q | q
     ·have:=(ZlM (es j).d (hL h0 es j)).2 k h3
      have h5:=ZhJ (h0:=h0) (es:=es) (m:=j+1) (m':=i) (by omega)
      simp only [hL] at h5;omega
     ·have:j≠i:=by rintro rfl;rw [hDi] at h2;cases h2
      have h5:=ZhJ (h0:=h0) (es:=es) (m:=i+1) (m':=j) (by omega)
      have:=hkeys k hk;omega
  have hidKeys:∀k,k∈Za2 (es i).d→k∉O.hid i (Zfb h0 es i):=fun k hk=>by
   unfold ZdL.ok at hok
   cases hd:O.draw with
   | false=>unfold ZdL.hid;rw [hd];simp
   | true=>rw [hd] at hok;exact (Zgg _ _ _ _ _ _ hok k hk).1
  have eqKeys:∀k,k∈Za2 (es i).d→O.hp i (Zfb h0 es i) (ZcR (hL h0 es i)) k=hD h0 es D all.length k:=fun k hk=>by
   rcases Nat.lt_or_ge k (hL h0 es i).length with q | q
   ·rcases hpk k with h | ⟨h,hn⟩
    ·have h2:O.hp i (Zfb h0 es i) (ZcR (hL h0 es i)) k=ZcR (hL h0 es i) k:=by
      have:=hidKeys k hk
      unfold ZdL.hp
      cases hd:O.draw with
      | false=>rfl
      | true=>
       simp only [cond_true,Zxf]
       cases hm:Ztr (O.hid i (Zfb h0 es i)) k with
       | false=>rfl
       | true=>exact absurd (Zh3.1 hm) this
     rw [h2];exact agreeH k (hidKeys k hk) q
    ·rw [h];exact agreeH k hn q
   ·have hdead:hD h0 es D all.length k=.dead:=by
     by_cases hd:hD h0 es D all.length k=.dead
     ·exact hd
     ·obtain ⟨u,hu,_⟩:=I.rep.ob k hd
      rw [fresh k hk q] at hu;cases hu
    rw [hdead]
    rcases hpk k with h | ⟨h,_⟩
    ·exact h
    ·rw [h];exact ZnY _ _ q
  have hpart:=I.rep.part hHle
  have hop:=ZpS (E:=E.part ι (hD h0 es D all.length) (O.hp i (Zfb h0 es i) (ZcR (hL h0 es i))) w) T hH hpart (av:=opnd (O.fr all i (frD all fr0 es yes i))) (ev:=a.eval)
   (fun x=>I.fr.opnd agreeF x) hev fresh
  refine OpR.wp (OpR.mono hop fun val w' ⟨ι',N',p⟩=>?_)
  have p:=Zvs.whole I.rep hHle p eqKeys
  refine hK ι' N' _ w' ⟨?_,?_,fun k hk=>?_,?_,by rw [Zmp];exact I.df⟩
  ·rw [Zi8 hDi hin hslot,hdi]
   exact (VRL.mono p.later _ _ I.fr).put o.dst p.vr
  ·rw [Zlc hDi hin fun j h1 h2 h3 k hk hkj=>?_]
   ·exact p.rep
   ·
    have hb:=P2 j h1 h3
    have hrj:(es j).run=true:=by
     cases hr:(es j).run with
     | true=>rfl
     | false=>
      have:=((hat j all[j] (List.getElem?_eq_getElem h2)).not hr).2
      rw [this] at hkj;simp [Za2] at hkj
    have hokj:=((hat j all[j] (List.getElem?_eq_getElem h2)).ran hrj).2
    unfold ZdL.ok at hokj
    rw [hb.1] at hokj
    have hn:=(Zgg _ _ _ _ _ _ hokj k hkj).1
    apply hn
    unfold ZdL.hid
    rw [hb.1]
    exact Zig _ _ _ _ _ (.inr ⟨_,Zj4 h1 hrun,ZjS hb.2,hk⟩)
  ·rcases p.new k with e | ⟨h1,h2⟩
   ·rw [e] at hk
    rcases I.born k hk with h | ⟨j,h1,h2,h3⟩
    ·exact .inl h
    ·exact .inr ⟨j,h1,by simp [ins,h2],h3⟩
   ·exact .inr ⟨i,hin,by simp [ins],h2,h1⟩
  ·refine I.grow.trans ⟨fun k hk=>?_,p.later.ro,p.later.mem,p.bound⟩
   rcases p.new k with e | ⟨h1,_⟩
   ·exact e
   ·have:=ZhJ (h0:=h0) (es:=es) (Nat.zero_le i)
    simp only [hL] at this;omega
theorem frD_D {D D':Nat→Bool}:∀{m:Nat},(∀j,j<m→D j=D' j)→frD all fr0 es D m=frD all fr0 es D' m
 | 0,_=>rfl
 | m+1,h=>by simp only [frD];rw [frD_D fun j hj=>h j (by omega),h m (by omega)]
theorem hD_D {D D':Nat→Bool}:∀{m:Nat},(∀j,j<m→D j=D' j)→hD h0 es D m=hD h0 es D' m
 | 0,_=>rfl
 | m+1,h=>by simp only [hD];rw [hD_D fun j hj=>h j (by omega),h m (by omega)]
theorem Zli {D:Nat→Bool} (h:∀j,D j=false):∀{m:Nat},frD all fr0 es D m=fr0
 | 0=>rfl
 | m+1=>by simp only [frD];rw [h m];exact Zli h
theorem ZnW {D:Nat→Bool} (h:∀j,D j=false):∀{m:Nat},hD h0 es D m=ZcR h0
 | 0=>rfl
 | m+1=>by simp only [hD];rw [h m];exact ZnW h
theorem ZuA {d:ZbC} (h:Za2 d=[]):d=[]:=by
 cases d with
 | nil=>rfl
 | cons x d=>obtain ⟨i,o⟩:=x;simp [Za2] at h
theorem ZiU {C:Ctx} (hat:∀i o,all[i]? = some o→ZwX C H O all fr0 h0 es i o):∀{m:Nat},m≤all.length→ZqB (Zfb h0 es m)=true→hL h0 es m=h0
 | 0,_,_=>rfl
 | m+1,hm,hq=>by
  have ho:=List.getElem?_eq_getElem (by omega:m<all.length)
  simp only [Zfb] at hq
  simp only [hL]
  cases hr:(es m).run with
  | false=>
   rw [hr] at hq
   rw [((hat m _ ho).not hr).2,ZiU hat (by omega) hq];rfl
  | true=>
   rw [hr] at hq
   simp only [cond_true,ZqB] at hq
   split at hq
   ·rename_i hk
    rw [ZuA hk,ZiU hat (by omega) hq];rfl
   ·cases hq
theorem ZxG.done {D:Nat→Bool} {ι0:Nat→Option Value} {N0:Nat→Prop} {w0:World} {df:List Deferred} {ι:Nat→Option Value} {N:Nat→Prop} {a:Act} {w:World} (hk0:keep≤h0.length)
  (I:ZxG E keep all fr0 h0 es all.length D ι0 N0 w0 df ι N a w) (hD:∀j,j<all.length→D j=true):Zix E keep ι N ⟨frD all fr0 es yes all.length,hL h0 es all.length⟩ a w:=by
 have hm:=ZhJ (h0:=h0) (es:=es) (Nat.zero_le all.length)
 simp only [hL] at hm
 refine ⟨?_,?_,fun k hk=>?_,by dsimp only;omega⟩
 ·rw [←frD_D (D:=D) fun j hj=>by rw [hD j hj];rfl];exact I.fr
 ·dsimp only;rw [←ZuK,←hD_D (D:=D) fun j hj=>by rw [hD j hj];rfl];exact I.rep
 ·dsimp only at hk
  cases hc:ι k with
  | none=>rfl
  | some u=>
   rcases I.born k (by rw [hc];simp) with h | ⟨i,h1,h2,h3,h4⟩
   ·omega
   ·have:=(ZlM (es i).d (hL h0 es i)).2 k h3
    have h5:=ZhJ (h0:=h0) (es:=es) (m:=i+1) (m':=all.length) (by omega)
    simp only [hL] at h5;omega
theorem Zm9 {D:Nat→Bool} {i:Nat} (hD:D i=false):∀(l:List Nat),i∈l→l.countP (fun j=>!ins D i j)<l.countP (fun j=>!D j)
 | [],h=>by simp at h
 | x::l,h=>by
  have hle:l.countP (fun j=>!ins D i j)≤l.countP (fun j=>!D j):=List.countP_mono_left fun j _ hj=>by
   simp only [ins] at hj
   by_cases e:j=i
   ·simp [e] at hj
   ·simpa [e] using hj
  by_cases e:x=i
  ·subst e
   have h1:ins D x x=true:=by simp [ins]
   simp only [List.countP_cons,h1,hD]
   simp only [Bool.not_true,Bool.not_false,Bool.false_eq_true,if_true,if_false]
   omega
  ·have hm:i∈l:=by simpa [Ne.symm e] using h
   have:=Zm9 hD l hm
   have hx:ins D i x=D x:=by simp [ins,e]
   simp only [List.countP_cons,hx]
   omega
theorem Zlr (i:Nat):∀(l:List Edge),Zls i l=true→∀e,e∈l→Zg0 e=true→e.on<i
 | [],_,e,h,_=>by simp at h
 | x::l,H,e,h,hb=>by
  simp only [Zls] at H
  have q:Zls i l=true∧(Zg0 x=true→x.on<i):=by
   cases h1:Zg0 x with
   | false=>rw [h1] at H;exact ⟨H,fun y=>by cases y⟩
   | true=>
    rw [h1] at H
    simp only [cond_true] at H
    cases h2:Nat.blt x.on i with
    | false=>rw [h2] at H;simp at H
    | true=>rw [h2] at H;exact ⟨H,fun _=>by rwa [Nat.blt_eq] at h2⟩
  cases h with
  | head=>exact q.2 hb
  | tail _ h=>exact Zlr i l q.1 e h hb
theorem ZjM:∀(l:List Oper) (i:Nat),Zlq l i=true→∀k o,l[k]? = some o→∀e,e∈o.after.toList→Zg0 e=true→e.on<i+k
 | [],i,_,k,o,hk=>by simp at hk
 | x::l,i,H,k,o,hk=>by
  simp only [Zlq] at H
  cases h1:Zls i x.after.toList with
  | false=>rw [h1] at H;simp at H
  | true=>
   rw [h1] at H
   cases k with
   | zero=>simp at hk;subst hk;intro e he hb;have:=Zlr i _ h1 e he hb;omega
   | succ k=>
    intro e he hb
    have:=ZjM l (i+1) H k o (by simpa using hk) e he hb
    omega
theorem Zhu (T:Zgn E.P E.C) (hH:ZjV E.P E.C H) {ρ:Type} {draw:Bool} {cm:List (Nat×List Nat)} {st:St} {K:List AV→Ziy→List Zqf→Option ρ} {r:ρ}
  (H1:Zgi E.C H ops.toList draw cm st K=some r) {a:Act} {w:World} {ι:Nat→Option Value} {N:Nat→Prop} (R:Zix E keep ι N st a w) {id:Nat} {Q:Exit→Act→World→Prop}
  (hQ:∀fr h lg,K fr h lg=some r→(ZqB lg=true→h=st.hp)→fr.length=st.fr.length→(∀t,(∀k,Zdu ops.toList k≠some t)→Zdt fr t=Zdt st.fr t)→∀a' w' ι' N',Zix E keep ι' N' ⟨fr,h⟩ a' w'→Znj E keep ι N w ι' N' w'→a'.defers=a.defers→Q .normal a' w') :
  (Code.region id ops draw).wp E.P Q a w:=by
 have start:∀(O:ZdL),Zlo E.C H O ops.toList ops.toList 0 st.fr st.hp [] K=some r→∃es:Nat→Ent,(∀i o,ops.toList[i]? = some o→ZwX E.C H O ops.toList st.fr st.hp es i o)∧
   K (frD ops.toList st.fr es yes ops.toList.length) (hL st.hp es ops.toList.length) (Zfb st.hp es ops.toList.length)=some r:=fun O h=>by
  obtain ⟨es,_,h1,h2⟩:=Zr9 (all:=ops.toList) (fr0:=st.fr) (h0:=st.hp) hH ops.toList 0 (fun _=>⟨.undef,[],false⟩) (fun j=>by simp) h
  refine ⟨es,fun i o hi=>?_,by simpa using h2⟩
  have:=h1 i o hi
  rwa [Nat.zero_add] at this
 have fin:∀{O:ZdL} {es:Nat→Ent},(∀i o,ops.toList[i]? = some o→ZwX E.C H O ops.toList st.fr st.hp es i o)→
   K (frD ops.toList st.fr es yes ops.toList.length) (hL st.hp es ops.toList.length) (Zfb st.hp es ops.toList.length)=some r→
   ∀D ι' N' a' w',ZxG E keep ops.toList st.fr st.hp es ops.toList.length D ι N w a.defers ι' N' a' w'→(∀j,j<ops.toList.length→D j=true)→Q .normal a' w':=fun {O es} hat hK D ι' N' a' w' I hD=>
  hQ _ _ _ hK (fun hq=>ZiU hat (Nat.le_refl _) hq) (Zi7 _ _) (fun t ht=>Zn1 (m:=0) (Nat.zero_le _) fun j _ _ hj=>absurd hj (ht j)) a' w' ι' N' (I.done R.kp hD) I.grow I.df
 cases draw with
 | false=>
  obtain ⟨es,hat,hK⟩:=start _ (by simpa only [Zgi,cond_false] using H1)
  refine wp_region ?_
  have loop:∀q m,m+q=ops.toList.length→∀ι' N' a' w',ZxG E keep ops.toList st.fr st.hp es ops.toList.length (fun j=>decide (j<m)) ι N w a.defers ι' N' a' w'→wpOps E.P ops Q (List.range' m q) a' w':=by
   intro q
   induction q with
   | zero=>
    intro m hm ι' N' a' w' I
    simp only [List.range'_zero,wpOps]
    exact fin hat hK _ ι' N' a' w' I fun j hj=>by simp;omega
   | succ q ih=>
    intro m hm ι' N' a' w' I
    rw [List.range'_succ,wpOps_cons]
    have hmo:=List.getElem?_eq_getElem (by omega:m<ops.toList.length)
    refine ZtE (all:=ops.toList) T hH rfl hat (fun h=>by cases h) hmo (by simp) (fun j hj hd=>by simp at hd;omega) (fun j hj hd=>by simp at hd;omega) R.kp I fun ι2 N2 a2 w2 I2=>?_
    refine ih (m+1) (by omega) ι2 N2 a2 w2 ?_
    have:ins (fun j=>decide (j<m)) m=fun j=>decide (j<m+1):=by
     funext j
     simp only [ins]
     by_cases e:j=m
     ·simp [e]
     ·simp [e];omega
    rw [←this];exact I2
  have:=loop ops.toList.length 0 (by omega) ι N a w ⟨?_,?_,fun k hk=>?_,.refl _ _ _ _ _,rfl⟩
  ·rw [List.range_eq_range'];simpa using this
  ·rw [Zli (D:=fun j=>decide (j<0)) fun j=>by simp];exact R.fr
  ·rw [ZnW (D:=fun j=>decide (j<0)) fun j=>by simp];exact R.rep
  ·left
   rcases Nat.lt_or_ge k st.hp.length with q | q
   ·exact q
   ·exact absurd (R.new k q) hk
 | true=>
  simp only [Zgi,cond_true] at H1
  cases he:Zlq ops.toList 0 with
  | false=>rw [he] at H1;simp at H1
  | true=>
   cases hd:Ztg (Zvr ops.toList 0 []) ops.toList ops.toList 0 with
   | false=>rw [he,hd] at H1;simp at H1
   | true=>
    rw [he,hd] at H1
    simp only [cond_true] at H1
    obtain ⟨es,hat,hK⟩:=start _ H1
    refine wp_region_any T.names ?_
    have edges:∀(i:Nat) (o:Oper),ops[i]? = some o→∀e,e∈o.after→Region.binds .any e=true→e.on<i:=fun i o hi e hm hb=>by
     have:=ZjM ops.toList 0 he i o (by simpa using hi) e (by simpa using hm) (by rw [ZlK];exact hb)
     omega
    have hgood:=ZwF ops.toList
    have any:∀fuel (listed:Array Bool) a' w' ι' N',listed.size=ops.size→(List.range ops.size).countP (fun j=>!listed.getD j false)≤fuel→
      (∀(i:Nat) (o:Oper),ops[i]? = some o→listed.getD i false=true→∀e,e∈o.after→Region.binds .any e=true→listed.getD e.on false=true)→
      ZxG E keep ops.toList st.fr st.hp es ops.toList.length (fun j=>listed.getD j false) ι N w a.defers ι' N' a' w'→wpAny E.P .any ops Q fuel listed a' w':=by
     intro fuel
     induction fuel with
     | zero=>
      intro listed a' w' ι' N' hs hc hdn I
      have hall:∀j,j<ops.toList.length→listed.getD j false=true:=fun j hj=>by
       have h0:(List.range ops.size).countP (fun j=>!listed.getD j false)=0:=by omega
       have:=List.countP_eq_zero.1 h0 j (by simpa using hj)
       simpa using this
      refine ⟨?_,fin hat hK _ ι' N' a' w' I hall⟩
      apply List.eq_nil_iff_forall_not_mem.2
      intro j hj
      obtain ⟨h1,o,h2,_⟩:=mem_ready.1 hj
      have hjs:j<ops.size:=(Array.getElem?_eq_some_iff.1 h2).1
      have:=hall j (by simpa using hjs)
      have hjl:j<listed.size:=by omega
      simp [hjl] at h1 this
      rw [h1] at this;cases this
     | succ fuel ih=>
      intro listed a' w' ι' N' hs hc hdn I
      have eqD:∀j,j<ops.size→listed.getD j true=listed.getD j false:=fun j hj=>by
       have hjl:j<listed.size:=by omega
       simp [hjl]
      refine ⟨fun hr=>?_,fun i hi=>?_⟩
      ·refine fin hat hK _ ι' N' a' w' I fun j hj=>?_
       induction j using Nat.strongRecOn with
       | _ j ihj=>
        cases hdj:listed.getD j false with
        | true=>rfl
        | false=>
         exfalso
         have hjs:j<ops.size:=by simpa using hj
         have hjo:=Array.getElem?_eq_getElem hjs
         have:j∈Region.ready .any ops listed:=mem_ready.2 ⟨by rw [eqD j hjs];exact hdj,ops[j],hjo,fun e hm hb=>ihj e.on (edges j _ hjo e hm hb) (by have:=edges j _ hjo e hm hb;omega)⟩
         rw [hr] at this;cases this
      ·obtain ⟨h1,o,h2,h3⟩:=mem_ready.1 hi
       have his:i<ops.size:=(Array.getElem?_eq_some_iff.1 h2).1
       have hDi:listed.getD i false=false:=by rw [←eqD i his];exact h1
       have closed:∀q,listed.getD q false=true→∀j,Nat.testBit (ZnX (Zvr ops.toList 0 []) q) j=true→listed.getD j false=true:=fun q=>by
        induction q using Nat.strongRecOn with
        | _ q ihq=>
         intro hq j hj
         obtain ⟨_,o',e,k1,k2,k3,k4,k5⟩:=hgood q j hj
         have hon:=hdn q o' (by simpa using k1) hq e (by simpa using k2) (by rw [←ZlK];exact k3)
         rcases k5 with rfl | k5
         ·exact hon
         ·exact ihq e.on k4 hon j k5
       have mine:∀j,Nat.testBit (ZnX (Zvr ops.toList 0 []) i) j=true→listed.getD j false=true:=fun j hj=>by
        obtain ⟨_,o',e,k1,k2,k3,k4,k5⟩:=hgood i j hj
        have ho':o'=o:=by
         have:ops[i]? = some o':=by simpa using k1
         rw [h2] at this;cases this;rfl
        subst ho'
        have hon:=h3 e (by simpa using k2) (by rw [←ZlK];exact k3)
        rcases k5 with rfl | k5
        ·exact hon
        ·exact closed e.on hon j k5
       have no:∀{b:Bool},(b=true→False)→b=false:=fun {b} h=>by cases b<;>simp_all
       have getIns:(fun j=>(listed.setIfInBounds i true).getD j false)=ins (fun j=>listed.getD j false) i:=by
        funext j
        simp only [ins]
        by_cases e:j=i
        ·subst e
         have hjl:j<listed.size:=by omega
         simp [hjl]
        ·rw [if_neg e,getD_set_ne false (Ne.symm e)]
       refine ZtE (all:=ops.toList) T hH rfl hat (fun _=>hd) (by simpa using h2) hDi (fun j hj hdj=>⟨rfl,ZhQ.2 ⟨by omega,no fun h=>?_,no fun h=>?_⟩⟩)
        (fun j hj hdj=>⟨rfl,ZhQ.2 ⟨by omega,no fun h=>?_,no fun h=>?_⟩⟩) R.kp I fun ι2 N2 a2 w2 I2=>?_
       ·have:=mine j h;rw [hdj] at this;cases this
       ·have:=(hgood j i h).1;omega
       ·have:=(hgood i j h).1;omega
       ·have:=closed j hdj i h;rw [hDi] at this;cases this
       ·refine ih _ a2 w2 ι2 N2 (by simpa using hs) ?_ (fun i' o' hi' hl e hm hb=>?_) (by rw [getIns];exact I2)
        ·have:=Zm9 (D:=fun j=>listed.getD j false) hDi (List.range ops.size) (by simpa using his)
         rw [←getIns] at this
         dsimp only at this
         omega
        ·by_cases ei:i'=i
         ·subst ei
          rw [h2] at hi';cases hi'
          exact getD_set_true (h3 e hm hb)
         ·rw [getD_set_ne false (Ne.symm ei)] at hl
          exact getD_set_true (hdn i' o' hi' hl e hm hb)
    have hrep0:(Array.replicate ops.size false).size=ops.size:=by simp
    have get0:(fun j=>(Array.replicate ops.size false).getD j false)=fun _=>false:=by
     funext j
     rcases Nat.lt_or_ge j ops.size with q | q
     ·simp [q]
     ·simp [q]
    refine any ops.size _ a { w with drawn:=w.drawn+1 } ι N hrep0 (Nat.le_trans List.countP_le_length (by simp)) (fun i o hi hl=>?_) ?_
    ·have:=congrFun get0 i
     rw [this] at hl;cases hl
    ·rw [get0]
     refine ⟨?_,?_,fun k hk=>?_,⟨fun _ _=>rfl,fun _ h=>h,fun _ _=>rfl,fun _ h=>.inl h⟩,rfl⟩
     ·rw [Zli (D:=fun _=>false) fun j=>rfl]
      exact VRL.mono (ZcE.world (w:=w) (w':={ w with drawn:=w.drawn+1 }) fun _ _=>rfl) _ _ R.fr
     ·rw [ZnW (D:=fun _=>false) fun j=>rfl];exact R.rep.drew
     ·left
      rcases Nat.lt_or_ge k st.hp.length with q | q
      ·exact q
      ·exact absurd (R.new k q) hk
end
end Ev
end
section
namespace Ev
open Go
theorem Zg7:∀(n j:Nat),ZeE (ZlZ n) j=if j<n then some j else none
 | 0,j=>by simp [ZlZ,ZeE]
 | n+1,j=>by
  simp only [ZlZ,ZeE]
  cases hb:Nat.beq n j with
  | true=>have:=Nat.eq_of_beq_eq_true hb;subst this;simp
  | false=>
   have hne:n≠j:=fun e=>by subst e;simp at hb
   simp only [cond_false]
   rw [Zg7 n j]
   by_cases h:j<n
   ·rw [if_pos h,if_pos (by omega)]
   ·rw [if_neg h,if_neg (by omega)]
theorem ZjA:∀(n i:Nat),i<n→Zho (ZlZ n) i=true
 | 0,i,h=>by omega
 | n+1,i,h=>by
  simp only [ZlZ,Zho]
  by_cases e:n=i
  ·subst e;simp
  ·rw [ZjA n i (by omega)]
   cases Nat.beq n i<;>rfl
section
variable {E:Env} {keep:Nat} {ι:Nat→Option Value} {N:Nat→Prop} {w:World} {hp:Ziy}
theorem mok0 (h:Nat→Ob) (keep n:Nat):MOk h n ⟨ZlZ keep,[],n,[],[]⟩:=by
 refine ⟨fun j j' i e e'=>?_,fun j i e=>?_,fun x hx=>by simp at hx,fun i hi=>by simp at hi,Nat.le_refl _⟩
 ·simp only [Zg7] at e e'
  split at e<;>split at e'<;>simp_all
 ·simp only [Zg7] at e
  split at e
  ·cases e;exact ZjA _ _ (by assumption)
  ·cases e
theorem ZrZ (R:Zcd E ι N (ZcR hp) w) (new:∀i,hp.length≤i→ι i=none) (kp:keep≤hp.length) {ots:List OT} {m1 m2:M}
  (x1:M.Ext ⟨ZlZ keep,[],ZaI hp,[],[]⟩ m1) (o1:MOk (ZcR hp) (ZaI hp) m1) (h2:OT.mts (ZcR hp) (ZpJ ots) ots 0 m1=some m2) (hok:m2.ok (ZaI ots)=true) :
  m1.Ext m2∧Img E ι N (ZcR hp) w m2 (Zoj ι m2.add) (ZlP ι m2) (Zr0 ι N m2)∧∃n2,m2.ds=n2.reverse++m1.ds∧
   Zcd E (ZlP ι m2) (Zr0 ι N m2) (ZcR (OT.insts (fun j=>j) ots n2)) w∧(∀i,ots.length≤i→ZlP ι m2 i=none)∧Znj E keep ι N w (ZlP ι m2) (Zr0 ι N m2) w∧keep≤ots.length:=by
 have b:=OT.mts_both (nid0:=ZaI hp) _ _ _ _ h2
 have o2:=b.2 o1
 have fresh:∀k,k∈Za2 m2.add→ι k=none:=fun k hk=>by
  obtain ⟨o,ho⟩:=ZgK.1 hk
  have:=(o2.add _ ho).2.1
  rw [Zbi] at this
  exact new k this
 unfold M.ok at hok
 simp only [Bool.and_eq_true] at hok
 have hrng:∀j i,ZeE m2.ren j=some i→j<ots.length:=fun j i e=>by have:=(ZiQ hok.2 j i e).1;rwa [Zbi] at this
 have keepRen:∀j,j<keep→ZeE m2.ren j=some j:=fun j hj=>b.1.ren j j (x1.ren j j (by rw [Zg7,if_pos hj]))
 obtain ⟨n2,d2,r2⟩:=ZkJ R o2 fresh hok.1 _ _ _ _ h2 (.refl _) o1
 refine ⟨b.1,img R o2 fresh,n2,d2,ZuF R o2 fresh hok.1 fun k hk=>?_,fun i hi=>?_,⟨fun i hi=>?_,fun b hb=>.inl hb,fun _ _=>rfl,fun b hb=>?_⟩,?_⟩
 ·have:=(r2 []).2 k (by simpa using hk)
  simpa using this
 ·cases e:ZeE m2.ren i with
  | none=>simp [ZlP,e]
  | some q=>have:=hrng i q e;omega
 ·simp only [ZlP,keepRen i hi,Option.bind_some,Zoj]
  rw [if_neg]
  intro hm
  obtain ⟨o,ho⟩:=ZgK.1 hm
  have:=(o2.add _ ho).2.1
  rw [Zbi] at this;dsimp only at this;omega
 ·rcases hb with hb | ⟨i,u,h1,h3,h4⟩
  ·exact .inl hb
  ·obtain ⟨t,xs,hx⟩:=o2.frz i h1
   exact .inr (R.blk_lt (by rw [hx];simp) h3 h4).1.2
 ·rcases Nat.eq_zero_or_pos keep with h | h
  ·omega
  ·have:=hrng (keep-1) (keep-1) (keepRen _ (by omega));omega
theorem Zjx {α:Type} {l:List α} {i:Nat} {v:α} (h:l[i]? = some v):l.set i v=l:=by
 obtain ⟨hi,rfl⟩:=List.getElem?_eq_some_iff.1 h
 simp
theorem Zm0 {h:Nat→Ob} {mf:M} {ι2 ι':Nat→Option Value} {N':Nat→Prop} {ots:Nat→OT} (I:Img E ι N h w mf ι2 ι' N') {fr:List AV} {vs:List Value} (hv:VRL ι N w fr vs) :
  ∀(slots:List (Nat×Tp)) (m m':M),ZwR h ots fr slots m=some m'→m'.Ext mf→∃new,m'.ds=new.reverse++m.ds∧∀rest fr0,VRL ι' N' w fr0 vs→
   ∃fr1,ZrY slots (new++rest) fr0=(fr1,rest)∧VRL ι' N' w fr1 vs
 | [],m,m',H,X=>by simp only [ZwR,Option.some.injEq] at H;subst H;exact ⟨[],rfl,fun rest fr0 h0=>⟨fr0,rfl,h0⟩⟩
 | (i,t)::r,m,m',H,X=>by
  simp only [ZwR] at H
  split at H
  ·rename_i m1 hm1
   have X1:=(Zlh (nid0:=0) r m1 m' H).1
   obtain ⟨n2,d2,r2⟩:=Zm0 I hv r m1 m' H X
   have put:∃n1 av,m1.ds=n1.reverse++m.ds∧(∀rest,Tp.inst (fun j=>j) t (n1++rest)=(av,rest))∧∀fr0,VRL ι' N' w fr0 vs→VRL ι' N' w (ZoC fr0 i av) vs:=by
    rcases Nat.lt_or_ge i fr.length with q | q
    ·obtain ⟨v,hvi,hr⟩:=hv.get i fr[i] (List.getElem?_eq_getElem q)
     have hg:Zdt fr i=fr[i]:=by rw [Zdk];simp [List.getElem?_eq_getElem q]
     rw [hg] at hm1
     obtain ⟨_,n1,av,d1,i1,r1⟩:=Zj2 I t _ m m1 v hm1 (X1.trans X) hr
     refine ⟨n1,av,d1,i1,fun fr0 h0=>?_⟩
     rw [Zdq]
     have:=h0.set i av v r1
     rwa [Zjx hvi] at this
    ·have hg:Zdt fr i=.undef:=by rw [Zdk];simp [List.getElem?_eq_none q]
     rw [hg] at hm1
     obtain ⟨_,n1,av,d1,i1,r1⟩:=Zj2 I t _ m m1 default hm1 (X1.trans X) (by simp only [VR])
     refine ⟨n1,av,d1,i1,fun fr0 h0=>?_⟩
     rw [Zdq,List.set_eq_of_length_le]
     ·exact h0
     ·rw [h0.len,←hv.len];exact q
   obtain ⟨n1,av,d1,i1,p1⟩:=put
   refine ⟨n1++n2,by rw [d2,d1];simp,fun rest fr0 h0=>?_⟩
   obtain ⟨fr1,e1,e2⟩:=r2 rest (ZoC fr0 i av) (p1 fr0 h0)
   refine ⟨fr1,?_,e2⟩
   simp only [ZrY,List.append_assoc,i1]
   exact e1
  ·cases H
theorem Zjo {ι:Nat→Option Value} {N:Nat→Prop} {w:World}:∀(n:Nat) (vs:List Value),vs.length=n→VRL ι N w (ZlI n) vs
 | 0,[],_=>by simp [ZlI,VRL]
 | n+1,v::vs,h=>by simp only [ZlI,VRL,VR];exact ⟨trivial,Zjo n vs (by simpa using h)⟩
 | 0,_::_,h=>by simp at h
 | n+1,[],h=>by simp at h
theorem Zg6 {sh:Sh} {st:St} {d:Den sh.ds} (H:sh.of keep st=some d) {a:Act} (R:Zix E keep ι N st a w) {n:Nat} (hn:n=st.fr.length) :
  ∃ι' N',Zix E keep ι' N' (sh.st n d) a w∧Znj E keep ι N w ι' N' w∧(sh.st n d).fr.length=n:=by
 unfold Sh.of at H
 split at H
 ·rename_i m1 hm1
  split at H
  ·rename_i m2 hm2
   cases hok:m2.ok (ZaI sh.hp) with
   | false=>rw [hok] at H;simp at H
   | true=>
    rw [hok] at H;simp only [cond_true] at H
    have b:=Zlh (nid0:=ZaI st.hp) _ _ _ hm1
    obtain ⟨X,I,n2,d2,R2,new2,G,kp⟩:=ZrZ R.rep R.new R.kp b.1 (b.2 (mok0 _ _ _)) hm2 hok
    obtain ⟨n1,d1,r1⟩:=Zm0 I R.fr _ _ _ hm1 X
    have hds:Den.list sh.ds d=n1++n2:=by rw [Den.of_list H,ZiO,d2,d1];simp
    obtain ⟨fr1,e1,e2⟩:=r1 n2 (ZlI n) (Zjo n _ (by rw [hn,R.fr.len]))
    have hst:sh.st n d=⟨fr1,OT.insts (fun j=>j) sh.hp n2⟩:=by
     unfold Sh.st
     rw [hds,e1]
    refine ⟨_,_,⟨by rw [hst];exact e2,by rw [hst];exact R2,fun i hi=>new2 i ?_,?_⟩,G,by rw [hst];dsimp only;rw [e2.len,←R.fr.len,hn]⟩
    ·rw [hst] at hi;dsimp only at hi;rwa [ZiV] at hi
    ·rw [hst];dsimp only;rw [ZiV];exact kp
  ·cases H
 ·cases H
theorem ZtV {o:Out} {v:AV} {d:Den o.ds} (H:o.of keep v hp=some d) (R:Zcd E ι N (ZcR hp) w) (new:∀i,hp.length≤i→ι i=none) (kp:keep≤hp.length) {val:Value} (hv:VR ι N w v val) :
  ∃ι' N' v' l',o.res.inst (fun j=>j) (Den.list o.ds d)=(v',l')∧VR ι' N' w v' val∧Zcd E ι' N' (ZcR (OT.insts (fun j=>j) o.hp l')) w∧(∀i,o.hp.length≤i→ι' i=none)∧Znj E keep ι N w ι' N' w:=by
 unfold Out.of at H
 split at H
 ·rename_i m1 hm1
  split at H
  ·rename_i m2 hm2
   cases hok:m2.ok (ZaI o.hp) with
   | false=>rw [hok] at H;simp at H
   | true=>
    rw [hok] at H;simp only [cond_true] at H
    have x1:=Zt8 _ _ _ _ hm1
    have o1:=Zxd (nid0:=ZaI hp) _ _ _ _ hm1 (mok0 _ _ _)
    obtain ⟨X,I,n2,d2,R2,new2,G,kp⟩:=ZrZ R new kp x1 o1 hm2 hok
    obtain ⟨_,n1,av,d1,i1,r1⟩:=Zj2 I _ _ _ _ val hm1 X hv
    have hds:Den.list o.ds d=n1++n2:=by rw [Den.of_list H,ZiO,d2,d1];simp
    exact ⟨_,_,av,n2,by rw [hds];exact i1 n2,r1,R2,new2,G⟩
  ·cases H
 ·cases H
theorem ZjF {ι:Nat→Option Value} {N:Nat→Prop} {w:World} {fr:List AV} {vs:List Value} (hv:VRL ι N w fr vs):∀(outs:List (Nat×Tp)) (l dats:List Dat),Zhp fr outs l=some dats→
  ∃new,dats=l.reverse++new∧∀fr0,VRL ι N w fr0 vs→VRL ι N w (ZfB fr0 outs new) vs
 | [],l,dats,H=>by
  simp only [Zhp,Option.some.injEq] at H
  exact ⟨[],by rw [←H,ZiO],fun fr0 h0=>by simp only [ZfB];exact h0⟩
 | (i,t)::r,l,dats,H=>by
  have put:∀(av:AV) (x:Dat),Zdt fr i=av→x.av=av→av≠.undef→Zhp fr r (x::l)=some dats→∃new,dats=l.reverse++new∧∀fr0,VRL ι N w fr0 vs→VRL ι N w (ZfB fr0 ((i,t)::r) new) vs:=by
   intro av x hg hx hu H
   obtain ⟨new,e,h⟩:=ZjF hv r (x::l) dats H
   refine ⟨x::new,by rw [e];simp,fun fr0 h0=>?_⟩
   simp only [ZfB]
   refine h _ ?_
   rw [hx,Zdq]
   rcases Nat.lt_or_ge i fr.length with q | q
   ·obtain ⟨v,hvi,hr⟩:=hv.get i fr[i] (List.getElem?_eq_getElem q)
    have:fr[i]=av:=by rw [←hg,Zdk];simp [List.getElem?_eq_getElem q]
    rw [this] at hr
    have:=h0.set i av v hr
    rwa [Zjx hvi] at this
   ·rw [Zdk] at hg
    simp [List.getElem?_eq_none q] at hg
    exact absurd hg.symm hu
  simp only [Zhp] at H
  split at H
  ·rename_i k k' n hg
   split at H
   ·rename_i e;subst e;exact put _ _ hg rfl (by simp) H
   ·cases H
  ·rename_i b hg;exact put _ _ hg rfl (by simp) H
  ·rename_i b hg;exact put _ _ hg rfl (by simp) H
  ·cases H
theorem ZjR (t:Nat):∀(ops:List Oper) (fr:List AV),Zdt (Zfw ops fr) t=.undef∨(Zdt (Zfw ops fr) t=Zdt fr t∧∀k,Zdu ops k≠some t)
 | [],fr=>.inr ⟨rfl,fun k=>by cases k<;>simp [Zdu]⟩
 | o::r,fr=>by
  simp only [Zfw]
  rcases ZjR t r (ZjE fr o.dst .undef) with h | ⟨h,hn⟩
  ·exact .inl h
  ·by_cases e:o.dst=some t
   ·left
    rw [h,e]
    simp only [ZjE]
    rcases Zhs fr t t with q | ⟨q,_⟩
    ·exact q
    ·exact absurd rfl q
   ·right
    rw [h,ZgS _ _ _ _ e]
    exact ⟨rfl,fun k=>by cases k with
     | zero=>exact e
     | succ k=>exact hn k⟩
theorem ZgZ:∀(ops:List Oper) (fr:List AV),(Zfw ops fr).length=fr.length
 | [],fr=>rfl
 | o::r,fr=>by
  simp only [Zfw]
  rw [ZgZ r]
  unfold ZjE
  split
  ·rfl
  ·rw [Zdq,List.length_set]
theorem Zkx:∀(outs:List (Nat×Tp)) (l:List Dat) (fr:List AV),(ZfB fr outs l).length=fr.length
 | [],l,fr=>by simp only [ZfB]
 | (i,t)::r,[],fr=>by simp only [ZfB]
 | (i,t)::r,x::l,fr=>by simp only [ZfB];rw [Zkx r,Zdq,List.length_set]
def Zr8:Ex→Exit
 | .normal=>.normal
 | .exit i=>.exit i
 | .ret=>.ret
variable {H:Hnd}
theorem ZpT (T:Zgn E.P E.C) (hH:ZjV E.P E.C H):∀(c:Code) {ρ:Type} (ann:Ann) (st:St) (K:Ex→St→Option ρ) (r:ρ),Zcm E.C H keep c ann st K=some r→
  ∀(ι:Nat→Option Value) (N:Nat→Prop) (a:Act) (w:World),Zix E keep ι N st a w→∀(Q:Exit→Act→World→Prop),
   (∀e st',K e st'=some r→st'.fr.length=st.fr.length→∀a' w' ι' N',Zix E keep ι' N' st' a' w'→Znj E keep ι N w ι' N' w'→a'.defers=a.defers→Q (Zr8 e) a' w')→c.wp E.P Q a w:=by
 intro c
 induction c with
 | skip=>intro ρ ann st K r HK ι N a w R Q hQ;exact wp_skip (hQ .normal st (by simpa only [Zcm] using HK) rfl a w ι N R (.refl _ _ _ _ _) rfl)
 | label l=>intro ρ ann st K r HK ι N a w R Q hQ;exact wp_label (hQ .normal st (by simpa only [Zcm] using HK) rfl a w ι N R (.refl _ _ _ _ _) rfl)
 | ret=>intro ρ ann st K r HK ι N a w R Q hQ;exact wp_ret (hQ .ret st (by simpa only [Zcm] using HK) rfl a w ι N R (.refl _ _ _ _ _) rfl)
 | exit i=>intro ρ ann st K r HK ι N a w R Q hQ;exact wp_exit (hQ (.exit i) st (by simpa only [Zcm] using HK) rfl a w ι N R (.refl _ _ _ _ _) rfl)
 | region id ops draw=>
  intro ρ ann st K r HK ι N a w R Q hQ
  have plain:∀cm,Zgi E.C H ops.toList draw cm st (fun fr h _=>K .normal ⟨fr,h⟩)=some r→(Code.region id ops draw).wp E.P Q a w:=fun cm h=>
   Zhu T hH h R fun fr h lg hK _ hl _ a' w' ι' N' R' G df=>hQ .normal ⟨fr,h⟩ hK hl a' w' ι' N' R' G df
  simp only [Zcm] at HK
  split at HK
  ·rename_i ds outs
   cases hr:Zgi E.C H ops.toList draw [] st (fun fr _ lg=>cond (ZqB lg) ((Zhp fr outs []).bind (Den.of ds)) none) with
   | none=>rw [hr] at HK;cases HK
   | some d=>
    rw [hr] at HK
    simp only [Option.bind_some] at HK
    refine Zhu T hH hr R fun fr h lg hK hq hl hsame a' w' ι' N' R' G df=>?_
    cases hqt:ZqB lg with
    | false=>rw [hqt] at hK;simp at hK
    | true=>
     rw [hqt] at hK
     simp only [cond_true] at hK
     cases ho:Zhp fr outs [] with
     | none=>rw [ho] at hK;cases hK
     | some dats=>
      rw [ho] at hK
      simp only [Option.bind_some] at hK
      have hhp:=hq hqt
      subst hhp
      obtain ⟨new,e,hset⟩:=ZjF R'.fr outs [] dats ho
      have hd:=Den.of_list hK
      simp only [List.reverse_nil,List.nil_append] at e
      rw [hd,e] at HK
      refine hQ .normal _ HK (by dsimp only;rw [Zkx,ZgZ]) a' w' ι' N' ⟨?_,R'.rep,R'.new,R'.kp⟩ G df
      refine hset _ (VRL.of_get ?_ fun t x v hx hv=>?_)
      ·rw [ZgZ,←R'.fr.len,hl]
      ·have hg:Zdt (Zfw ops.toList st.fr) t=x:=by rw [Zdk];simp [hx]
       rcases ZjR t ops.toList st.fr with h1 | ⟨h1,h2⟩
       ·rw [h1] at hg;subst hg;simp only [VR]
       ·have:=hsame t h2
        rw [hg] at h1
        rw [h1,←this,Zdk]
        have htl:t<fr.length:=by rw [R'.fr.len];exact (List.getElem?_eq_some_iff.1 hv).1
        obtain ⟨u,hu,hr⟩:=R'.fr.get t fr[t] (List.getElem?_eq_getElem htl)
        rw [hv] at hu;cases hu
        simpa [List.getElem?_eq_getElem htl] using hr
  ·exact plain _ HK
 | seq x y ihx ihy=>
  intro ρ ann st K r HK ι N a w R Q hQ
  refine wp_seq ?_
  have next:∀(ann':Ann) (st':St),st'.fr.length=st.fr.length→Zcm E.C H keep y ann' st' K=some r→∀a' w' ι' N',Zix E keep ι' N' st' a' w'→Znj E keep ι N w ι' N' w'→a'.defers=a.defers→y.wp E.P Q a' w':=
   fun ann' st' hl h a' w' ι' N' R' G df=>ihy ann' st' K r h ι' N' a' w' R' Q fun e st2 h2 hl2 a2 w2 ι2 N2 R2 G2 df2=>hQ e st2 h2 (hl2.trans hl) a2 w2 ι2 N2 R2 (G.trans G2) (df2.trans df)
  have viaShape:∀(sh:Sh) (ann':Ann) (d:Den sh.ds),Zcm E.C H keep y ann' (sh.st (ZaI st.fr) d) K=some r→∀st',sh.of keep st'=some d→st'.fr.length=st.fr.length→∀a' w' ι' N',
    Zix E keep ι' N' st' a' w'→Znj E keep ι N w ι' N' w'→a'.defers=a.defers→y.wp E.P Q a' w':=fun sh ann' d h st' hd hl a' w' ι' N' R' G df=>by
   obtain ⟨ι2,N2,R2,G2,hl2⟩:=Zg6 hd R' (n:=ZaI st.fr) (by rw [Zbi,hl])
   exact next ann' _ (by rw [hl2,Zbi]) h a' w' ι2 N2 R2 (G.trans G2) df
  simp only [Zcm] at HK
  split at HK
  ·rename_i sh ax ay
   cases h1:Zcm E.C H keep x (ρ:=Den sh.ds) ax st (ZnQ (sh.of keep)) with
   | none=>rw [h1] at HK;cases HK
   | some d=>
    rw [h1] at HK
    simp only [Option.bind_some] at HK
    refine ihx ax st _ d h1 ι N a w R _ fun e st' hK hl a' w' ι' N' R' G df=>?_
    cases e with
    | normal=>exact viaShape sh ay d HK st' hK hl a' w' ι' N' R' G df
    | exit i=>cases hK
    | ret=>cases hK
  ·rename_i sh ax ay
   cases h1:Zcm E.C H keep x (ρ:=Den sh.ds⊕ρ) ax st (Zic (sh.of keep) K) with
   | none=>rw [h1] at HK;cases HK
   | some q=>
    rw [h1] at HK
    simp only [Option.bind_some] at HK
    refine ihx ax st _ q h1 ι N a w R _ fun e st' hK hl a' w' ι' N' R' G df=>?_
    have out:∀(e:Ex),(K e st').map Sum.inr=some q→Q (Zr8 e) a' w':=fun e h=>by
     cases hk:K e st' with
     | none=>rw [hk] at h;cases h
     | some r'=>
      rw [hk] at h
      simp only [Option.map_some,Option.some.injEq] at h
      subst h
      cases HK
      exact hQ e st' hk hl a' w' ι' N' R' G df
    cases e with
    | normal=>
     cases hs:sh.of keep st' with
     | none=>simp only [ZnQ,Zic,ZlY,Zhq] at hK;rw [hs] at hK;cases hK
     | some d=>
      simp only [ZnQ,Zic,ZlY,Zhq] at hK
      rw [hs] at hK
      simp only [Option.map_some,Option.some.injEq] at hK
      subst hK
      exact viaShape sh ay d HK st' hs hl a' w' ι' N' R' G df
    | exit i=>exact out (.exit i) hK
    | ret=>exact out .ret hK
  ·refine ihx ann.l st _ r HK ι N a w R _ fun e st' hK hl a' w' ι' N' R' G df=>?_
   cases e with
   | normal=>exact next ann.r st' hl hK a' w' ι' N' R' G df
   | exit i=>exact hQ (.exit i) st' hK hl a' w' ι' N' R' G df
   | ret=>exact hQ .ret st' hK hl a' w' ι' N' R' G df
 | cond c x y ihx ihy=>
  intro ρ ann st K r HK ι N a w R Q hQ
  simp only [Zcm] at HK
  split at HK
  ·rename_i t ht
   have hc:=R.fr.opnd (F:=st.fr) (fun t=>.inr rfl) c
   rw [ht] at hc
   simp only [VR] at hc
   refine wp_cond hc ?_
   cases t with
   | true=>exact ihx ann.l st K r HK ι N a w R Q hQ
   | false=>exact ihy ann.r st K r HK ι N a w R Q hQ
  ·cases HK
 | block i c ih=>
  intro ρ ann st K r HK ι N a w R Q hQ
  simp only [Zcm] at HK
  refine wp_block (ih ann.l st _ r HK ι N a w R _ fun e st' hK hl a' w' ι' N' R' G df=>?_)
  cases e with
  | normal=>exact hQ .normal st' hK hl a' w' ι' N' R' G df
  | ret=>exact hQ .ret st' hK hl a' w' ι' N' R' G df
  | exit j=>
   simp only [ZnQ,Zic,ZlY,Zhq] at hK
   simp only [Zr8,Exit.inBlock]
   cases hb:Nat.beq j i with
   | true=>
    rw [hb] at hK
    have:=Nat.eq_of_beq_eq_true hb
    rw [if_pos this]
    exact hQ .normal st' hK hl a' w' ι' N' R' G df
   | false=>
    rw [hb] at hK
    have hne:j≠i:=fun e=>by subst e;simp at hb
    rw [if_neg hne]
    exact hQ (.exit j) st' hK hl a' w' ι' N' R' G df
 | loop c ih=>
  intro ρ ann st K r HK ι N a w R Q hQ
  simp only [Zcm] at HK
  have leave:∀(out:Sh) (x:Nat) (d:Den out.ds),K (.exit x) (out.st (ZaI st.fr) d)=some r→∀st',out.of keep st'=some d→st'.fr.length=st.fr.length→∀a' w' ι' N',
    Zix E keep ι' N' st' a' w'→Znj E keep ι N w ι' N' w'→a'.defers=a.defers→Q (.exit x) a' w':=fun out x d h st' hd hl a' w' ι' N' R' G df=>by
   obtain ⟨ι2,N2,R2,G2,hl2⟩:=Zg6 hd R' (n:=ZaI st.fr) (by rw [Zbi,hl])
   exact hQ (.exit x) _ h (by rw [hl2,Zbi]) a' w' ι2 N2 R2 (G.trans G2) df
  split at HK
  ·rename_i sh fuel x out an
   cases h0:sh.of keep st with
   | none=>rw [h0] at HK;cases HK
   | some d0=>
    rw [h0] at HK
    simp only [Option.bind_some] at HK
    cases h1:ZaB (σ:=Den out.ds) (fun again d=>Zcm E.C H keep c an (sh.st (ZaI st.fr) d) (ZlY (sh.of keep) (out.of keep) x again)) (fuel d0) d0 with
    | none=>rw [h1] at HK;cases HK
    | some res=>
     rw [h1] at HK
     simp only [Option.bind_some] at HK
     obtain ⟨ι1,N1,R1,G1,hl1⟩:=Zg6 h0 R (n:=ZaI st.fr) (Zbi _)
     refine wp_loop_ghost (fun n a' w'=>∃d ι' N',Zix E keep ι' N' (sh.st (ZaI st.fr) d) a' w'∧Znj E keep ι N w ι' N' w'∧a'.defers=a.defers∧(sh.st (ZaI st.fr) d).fr.length=ZaI st.fr∧
      ZaB (σ:=Den out.ds) (fun again d=>Zcm E.C H keep c an (sh.st (ZaI st.fr) d) (ZlY (sh.of keep) (out.of keep) x again)) n d=some res) (fuel d0) ⟨d0,ι1,N1,R1,G1,rfl,hl1,h1⟩ ?_
     rintro n a' w' ⟨d,ι',N',R',G',df',hl',hn⟩
     cases n with
     | zero=>cases hn
     | succ n=>
      simp only [ZaB] at hn
      refine ih an _ _ res hn ι' N' a' w' R' _ fun e st' hK hl2 a2 w2 ι2 N2 R2 G2 df2=>?_
      have hlen:st'.fr.length=st.fr.length:=by rw [hl2,hl',Zbi]
      cases e with
      | normal=>
       simp only [ZnQ,Zic,ZlY,Zhq] at hK
       cases hs:sh.of keep st' with
       | none=>rw [hs] at hK;cases hK
       | some d'=>
        rw [hs] at hK
        simp only [Option.bind_some] at hK
        obtain ⟨ι3,N3,R3,G3,hl3⟩:=Zg6 hs R2 (n:=ZaI st.fr) (by rw [Zbi,hlen])
        exact ⟨n,Nat.lt_succ_self n,d',ι3,N3,R3,(G'.trans G2).trans G3,df2.trans df',hl3,hK⟩
      | ret=>cases hK
      | exit j=>
       simp only [ZnQ,Zic,ZlY,Zhq] at hK
       cases hb:Nat.beq j x with
       | false=>rw [hb] at hK;cases hK
       | true=>
        rw [hb] at hK
        have:=Nat.eq_of_beq_eq_true hb
        subst this
        exact leave out j res HK st' hK hlen a2 w2 ι2 N2 R2 (G'.trans G2) (df2.trans df')
  ·rename_i sh fuel x out an
   cases h0:sh.of keep st with
   | none=>rw [h0] at HK;cases HK
   | some d0=>
    rw [h0] at HK
    simp only [Option.bind_some] at HK
    cases h1:ZaB (σ:=Den out.ds⊕ρ) (fun again d=>Zcm E.C H keep c an (sh.st (ZaI st.fr) d) (Zhq (sh.of keep) (out.of keep) x K again)) (fuel d0) d0 with
    | none=>rw [h1] at HK;cases HK
    | some res=>
     rw [h1] at HK
     simp only [Option.bind_some] at HK
     obtain ⟨ι1,N1,R1,G1,hl1⟩:=Zg6 h0 R (n:=ZaI st.fr) (Zbi _)
     refine wp_loop_ghost (fun n a' w'=>∃d ι' N',Zix E keep ι' N' (sh.st (ZaI st.fr) d) a' w'∧Znj E keep ι N w ι' N' w'∧a'.defers=a.defers∧(sh.st (ZaI st.fr) d).fr.length=ZaI st.fr∧
      ZaB (σ:=Den out.ds⊕ρ) (fun again d=>Zcm E.C H keep c an (sh.st (ZaI st.fr) d) (Zhq (sh.of keep) (out.of keep) x K again)) n d=some res) (fuel d0) ⟨d0,ι1,N1,R1,G1,rfl,hl1,h1⟩ ?_
     rintro n a' w' ⟨d,ι',N',R',G',df',hl',hn⟩
     cases n with
     | zero=>cases hn
     | succ n=>
      simp only [ZaB] at hn
      refine ih an _ _ res hn ι' N' a' w' R' _ fun e st' hK hl2 a2 w2 ι2 N2 R2 G2 df2=>?_
      have hlen:st'.fr.length=st.fr.length:=by rw [hl2,hl',Zbi]
      have outK:∀(e:Ex),(K e st').map (Sum.inr (α:=Den out.ds))=some res→Q (Zr8 e) a2 w2:=fun e h=>by
       cases hk:K e st' with
       | none=>rw [hk] at h;cases h
       | some r'=>
        rw [hk] at h
        simp only [Option.map_some,Option.some.injEq] at h
        subst h
        cases HK
        exact hQ e st' hk hlen a2 w2 ι2 N2 R2 (G'.trans G2) (df2.trans df')
      cases e with
      | normal=>
       simp only [ZnQ,Zic,ZlY,Zhq] at hK
       cases hs:sh.of keep st' with
       | none=>rw [hs] at hK;cases hK
       | some d'=>
        rw [hs] at hK
        simp only [Option.bind_some] at hK
        obtain ⟨ι3,N3,R3,G3,hl3⟩:=Zg6 hs R2 (n:=ZaI st.fr) (by rw [Zbi,hlen])
        exact ⟨n,Nat.lt_succ_self n,d',ι3,N3,R3,(G'.trans G2).trans G3,df2.trans df',hl3,hK⟩
      | ret=>exact outK .ret hK
      | exit j=>
       simp only [ZnQ,Zic,ZlY,Zhq] at hK
       cases hb:Nat.beq j x with
       | false=>rw [hb] at hK;exact outK (.exit j) hK
       | true=>
        rw [hb] at hK
        have:=Nat.eq_of_beq_eq_true hb
        subst this
        simp only [cond_true] at hK
        cases hs:out.of keep st' with
        | none=>rw [hs] at hK;cases hK
        | some d'=>
         rw [hs] at hK
         simp only [Option.map_some,Option.some.injEq] at hK
         subst hK
         exact leave out j d' HK st' hs hlen a2 w2 ι2 N2 R2 (G'.trans G2) (df2.trans df')
  ·cases HK
 | _=>intro ρ ann st K r HK;simp [Zcm] at HK
end
end Ev
end
section
namespace Ev
open Go
def resM (tmps:Array Value):ResultVar→Sem Value
 | .tmp t=>pure (tmps.getD t undef)
 | .cell a t=>do loadVar t (←asAddr (tmps.getD a undef))
theorem Zsy (fn:Func) (tmps:Array Value):results fn tmps=(do
  let vs ←fn.results.mapM (resM tmps)
  pure (if h:vs.size=1 then vs[0] else .tuple vs)):=by
 unfold results
 rfl
section
variable {E:Env} {keep:Nat} {ι:Nat→Option Value} {N:Nat→Prop} {w:World}
theorem ZiP (T:Zgn E.P E.C) {st:St} {a:Act} (R:Zix E keep ι N st a w):∀(rs:List ResultVar) (l:List AV),ZvE E.C st.fr (ZcR st.hp) rs=some l→
  ∃vals:List Value,(rs.mapM (resM a.tmps)).run E.P w=.ok vals w∧VRL ι N w l vals
 | [],l,H=>by
  simp only [ZvE,Option.some.injEq] at H;subst H
  exact ⟨[],by simp [Sem.run_pure],by simp only [VRL]⟩
 | .tmp t::rs,l,H=>by
  simp only [ZvE] at H
  split at H
  ·rename_i l' h'
   cases H
   obtain ⟨vals,h1,h2⟩:=ZiP T R rs l' h'
   refine ⟨a.tmps.getD t undef::vals,?_,?_⟩
   ·simp only [List.mapM_cons,resM,Sem.run_bind,Sem.run_pure,Result.andThen_ok,h1]
   ·simp only [VRL]
    exact ⟨R.fr.opnd (F:=st.fr) (fun t=>.inr rfl) (.tmp t),h2⟩
  ·cases H
 | .cell p t::rs,l,H=>by
  simp only [ZvE] at H
  split at H
  ·rename_i id o hp
   split at H
   ·rename_i cs hcs
    cases hot:(E.C.ty t).d.isOther with
    | true=>rw [hot] at H;simp at H
    | false=>
     rw [hot] at H
     simp only [cond_false] at H
     split at H
     ·rename_i v l' hpart h'
      cases H
      obtain ⟨vals,h1,h2⟩:=ZiP T R rs l' h'
      have hv:=R.fr.opnd (F:=st.fr) (fun t=>.inr rfl) (.tmp p)
      simp only [Ev.opnd,hp,VR,Act.eval] at hv
      obtain ⟨b,q,e1,e2⟩:=hv
      obtain ⟨u,hu,hob⟩:=R.rep.ob id (by rw [hcs];simp)
      rw [e1] at hu;cases hu
      rw [hcs] at hob
      obtain ⟨b',q',c,T0,e3,_,hheap,hcells⟩:=hob
      cases e3
      obtain ⟨x,hrun,hx⟩:=Zdw T hheap hcells hpart hot
      refine ⟨x::vals,?_,?_⟩
      ·have hl:(loadVar t ⟨b,q+o,none⟩).run E.P w=.ok x w:=by
        have:=hrun
        simpa [Instr.loadAt,Instr.sureAddr,Sem.run_bind,Sem.run_pure] using this
       simp only [List.mapM_cons,resM,Sem.run_bind,e2,asAddr,Sem.run_pure,Result.andThen_ok,hl,h1]
      ·simp only [VRL]
       exact ⟨ZkF (fun _ _ x=>x) hx,h2⟩
     ·cases H
   ·cases H
  ·cases H
theorem ZnG (T:Zgn E.P E.C) {st:St} {a:Act} (R:Zix E keep ι N st a w) {fn:Func} {l:List AV} (H:ZvE E.C st.fr (ZcR st.hp) fn.results.toList=some l) :
  ∃val,(results fn a.tmps).run E.P w=.ok val w∧VR ι N w (resV l) val:=by
 obtain ⟨vals,h1,h2⟩:=ZiP T R _ _ H
 refine ⟨if h:vals.toArray.size=1 then vals.toArray[0] else .tuple vals.toArray,?_,?_⟩
 ·skip
  rw [Zsy,Array.mapM_eq_mapM_toList]
  simp only [List.toList_toArray,Sem.run_bind]
  have:∀(s:Sem (List Value)),s.run E.P w=.ok vals w→(List.toArray <$> s).run E.P w=.ok vals.toArray w:=fun s hs=>by
   rw [←bind_pure_comp,Sem.run_bind,hs];rfl
  rw [this _ h1]
  rfl
 ·have hl:=h2.len
  unfold resV
  split
  ·rename_i x
   cases vals with
   | nil=>simp at hl
   | cons v vs=>
    cases vs with
    | nil=>simp only [VRL] at h2;simpa using h2.1
    | cons _ _=>simp at hl
  ·rename_i hne
   have:¬vals.toArray.size=1:=by
    intro h
    have hlen:l.length=1:=by rw [hl];simpa using h
    obtain ⟨x,hx⟩:=List.length_eq_one_iff.1 hlen
    exact hne x hx
   rw [dif_neg this]
   simp only [VR]
   exact ⟨vals.toArray,rfl,by simpa using h2⟩
end
theorem ZlD {P:Program} {C:Ctx} {H:Hnd} {f:Nat} {fn:Func} {ann:Ann} {S:ZaT} (T:Zgn P C) (hH:ZjV P C H) (hf:P.funcs[f]? = some fn)
  (hb:fn.body.isNone=false) (hwf:S.wf=true) (d:Den S.ids) (r:Den S.out.ds) (hF:Zbb C H fn ann S d=some r) (E:Env) (eP:E.P=P) (eC:E.C=C) (ι:Nat→Option Value) (N:Nat→Prop) (w:World) (vs:Array Value)
  (args:List AV) (l:List Dat) (hinsts:Tp.insts (fun j=>j) S.args (Den.list S.ids d)=(args,l)) (hv:VRL ι N w args vs.toList) (R:Zcd E ι N (ZcR (OT.insts (fun j=>j) S.ihp l)) w)
  (new:∀i,S.ihp.length≤i→ι i=none) :
  Calls P f vs w fun e w'=>∃val,e=.returned val∧∃ι' N' v l',S.out.res.inst (fun j=>j) (Den.list S.out.ds r)=(v,l')∧VR ι' N' w' v val∧
   Zcd E ι' N' (ZcR (OT.insts (fun j=>j) S.out.hp l')) w'∧(∀i,S.out.hp.length≤i→ι' i=none)∧Znj E S.keep ι N w ι' N' w':=by
 subst eP eC
 unfold Zbb at hF
 cases hbody:fn.body with
 | none=>rw [hbody] at hb;cases hb
 | some c=>
  rw [hbody] at hF
  simp only [hinsts] at hF
  refine calls_of_wp hf hbody ?_
  have hkeep:S.keep≤S.ihp.length:=by
   simp only [ZaT.wf,Bool.and_eq_true] at hwf
   have:=Nat.le_of_ble_eq_true hwf.1;rwa [Zbi] at this
  have hlen:args.length=vs.size:=by rw [hv.len];simp
  refine ZpT (keep:=S.keep) T hH c ann _ _ r hF ι N _ w ⟨?_,R,fun i hi=>?_,?_⟩ _ fun e st' hK hl a' w' ι' N' R' G df=>?_
  ·simp only [ZdE,Zbi,Array.toList_append,hlen]
   exact hv.append (Zjo _ _ (by simp))
  ·dsimp only at hi;rw [ZiV] at hi;exact new i hi
  ·dsimp only;rw [ZiV];exact hkeep
  ·have fin:∀{l:List AV},ZvE E.C st'.fr (ZcR st'.hp) fn.results.toList=some l→S.out.of S.keep (resV l) st'.hp=some r→a'.defers=[]∧∃v,(results fn a'.tmps).run E.P w'=.ok v w'∧
     ∃val,Ending.returned v=.returned val∧∃ι' N' v l',S.out.res.inst (fun j=>j) (Den.list S.out.ds r)=(v,l')∧VR ι' N' w' v val∧
      Zcd E ι' N' (ZcR (OT.insts (fun j=>j) S.out.hp l')) w'∧(∀i,S.out.hp.length≤i→ι' i=none)∧Znj E S.keep ι N w ι' N' w':=fun {l} h1 h2=>by
    obtain ⟨val,hrun,hval⟩:=ZnG T R' h1
    obtain ⟨ι2,N2,v',l',e1,e2,e3,e4,e5⟩:=ZtV h2 R'.rep R'.new R'.kp hval
    exact ⟨df,val,hrun,val,rfl,ι2,N2,v',l',e1,e2,e3,e4,G.trans e5⟩
   cases e with
   | exit i=>cases hK
   | normal=>
    dsimp only at hK
    split at hK
    ·rename_i l h1;exact fin h1 hK
    ·cases hK
   | ret=>
    dsimp only at hK
    split at hK
    ·rename_i l h1;exact fin h1 hK
    ·cases hK
theorem Zac {P:Program} {C:Ctx} {H:Hnd} {f:Nat} {fn:Func} {ann:Ann} {S:ZaT} (T:Zgn P C) (hH:ZjV P C H) (hf:P.funcs[f]? = some fn) (hname:(fn.name == "runtime.NumGoroutine")=false)
  (hb:fn.body.isNone=false) (hwf:S.wf=true) (hev:∀d,Zbb C H fn ann S d=S.F d):Zah P C f S:=
 ⟨hwf,fun d r hF E eP eC ι N w vs args l hinsts hv R new=>OpR.of_calls hf hname hb (ZlD T hH hf hb hwf d r ((hev d).trans hF) E eP eC ι N w vs args l hinsts hv R new)⟩
theorem sE {P:Program} {C:Ctx} {H:Hnd} {f:Nat} {fn:Func} {ann:Ann} {S:ZaT} (T:Zgn P C) (hev:∀d,Zbb C H fn ann S d=S.F d) (hH:ZjV P C H) (hf:P.funcs[f]? = some fn)
  (hname:(fn.name == "runtime.NumGoroutine")=false:=by kernel_rfl) (hb:fn.body.isNone=false:=by kernel_rfl) (hwf:S.wf=true:=by kernel_rfl):Zah P C f S:=Zac T hH hf hname hb hwf hev
end Ev
end

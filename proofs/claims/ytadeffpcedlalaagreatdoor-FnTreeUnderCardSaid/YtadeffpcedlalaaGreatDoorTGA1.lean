/- An evaluator over the code of the model, and that it is right. Conditions: as stated. -/
import Derived.Deep.LoopGhost
import Derived.KernelRfl
import Derived.Test.YtadeffpcedlalaaGreatDoorTGA0
set_option linter.unusedVariables false
set_option linter.unusedSimpArgs false
section
namespace Ev
open Go
section
variable {E:Env} {ι:Nat→Option Value} {N:Nat→Prop} {h:Nat→Ob} {w:World} {nid:Nat} {s:Sem Next} {ρ:Type}
 {av:Operand→AV} {ev:Operand→Value} {K:AV→Zbf→Option ρ} {r:ρ}
theorem ZdT {b:Builtin} {args:Array Operand} {argTypes:Array TypeId} {o:Oper} (ho:o.op=.call { callee:=.builtin b,args,argTypes }) {w':World} {v:Value}
  (hb:∀consts,(builtin b argTypes o.type consts (args.map ev)).run E.P w=.ok (.value v) w'):(execOp ev o).run E.P w=.ok (.value v) w':=by
 simp only [execOp,ho,resolve,invoke,Sem.run_bind,Sem.run_pure,Result.andThen_ok]
 exact hb _
theorem Zrc (R:ZbF E ι N h w) (T:Zey E.P E.C) {t:Nat} (ht:Zdp (E.C.ty t).d=true) {a:AV} {x:Value} {K:AV→Option ρ} (hx:VR ι N w a x) (H:ZtR h K (E.C.ty t).d.isStr a=some r) :
  ∃v val,K v=some r∧VR ι N w v val∧∀ty,(Builtin.len_ #[t] ty #[x]).run E.P w=.ok val w:=by
 have hu:=T.und t
 have slc:(E.C.ty t).d.isStr=false→∃e,E.P.underlying t=some (.slice e):=by
  intro h1
  generalize (E.C.ty t).d=q at *
  cases q<;>simp [Zdp,TD.isStr] at ht h1
  exact ⟨_,hu⟩
 have str:(E.C.ty t).d.isStr=true→E.P.underlying t=some .string:=by
  intro h1
  generalize (E.C.ty t).d=q at *
  cases q<;>simp [Zdp,TD.isStr] at ht h1
  exact hu
 have slen:∀{b:Option Addr} {n c:Nat},(E.C.ty t).d.isStr=false→x=.slice b n c→∀ty,(Builtin.len_ #[t] ty #[x]).run E.P w=.ok (.int .i64 n) w:=by
  intro b n c h1 h2 ty
  obtain ⟨e,he⟩:=slc h1
  subst h2
  simp [Builtin.len_,run_underlying he,goInt]
 unfold ZtR at H
 split at H
 ·simp only [VR] at hx;subst hx
  cases hs:(E.C.ty t).d.isStr with
  | false=>rw [hs] at H;simp at H
  | true=>
   rw [hs] at H;simp only [cond_true] at H
   exact ⟨_,_,H,by (simp only [VR];try rfl),fun ty=>by simp [Builtin.len_,run_underlying (str hs),goInt,ZcP]⟩
 ·simp only [VR] at hx
  obtain ⟨b,cap,hx,_⟩:=hx
  cases hs:(E.C.ty t).d.isStr with
  | true=>rw [hs] at H;simp at H
  | false=>
   rw [hs] at H;simp only [cond_false] at H
   exact ⟨_,_,H,by (simp only [VR];try rfl),slen hs hx⟩
 ·simp only [VR] at hx
  cases hs:(E.C.ty t).d.isStr with
  | true=>rw [hs] at H;simp at H
  | false=>
   rw [hs] at H;simp only [cond_false] at H
   exact ⟨_,_,H,by (simp only [VR];try rfl),slen hs hx⟩
 ·rename_i id
  split at H
  ·rename_i ft xs hxs
   cases hs:(E.C.ty t).d.isStr with
   | true=>rw [hs] at H;simp at H
   | false=>
    rw [hs] at H;simp only [cond_false] at H
    simp only [VR] at hx
    obtain ⟨u,hu',hob⟩:=R.ob id (by rw [hxs];simp)
    rw [hx.1] at hu';cases hu'
    rw [hxs] at hob
    obtain ⟨b,cap,e1,_⟩:=hob
    exact ⟨_,_,H,by (simp only [VR];try rfl),slen hs e1⟩
  ·cases H
 ·simp only [VR] at hx
  obtain ⟨_,_,_,_,_,a',cap',hx,_⟩:=hx
  cases hs:(E.C.ty t).d.isStr with
  | true=>rw [hs] at H;simp at H
  | false=>
   rw [hs] at H;simp only [cond_false] at H
   exact ⟨_,_,H,by (simp only [VR];try rfl),slen hs hx⟩
 ·cases H
theorem ZqR {P:Program} {w:World} {k:IntKind}:∀(l:List AV) (n:Int) (k':IntKind) (m:Int) (vs:List Value),Zb6 Zlq k n l=some (k',m)→VRL ι N w l vs→
  (vs.foldlM Builtin.min2 (.int k n)).run P w=.ok (.int k' m) w
 | [],n,k',m,[],h,_=>by simp [Zb6] at h;obtain ⟨rfl,rfl⟩:=h;rfl
 | .int k2 n2::l,n,k',m,v::vs,h,hv=>by
  simp only [Zb6] at h
  split at h
  ·rename_i e;subst e
   simp only [VRL,VR] at hv
   obtain ⟨rfl,hv⟩:=hv
   simp only [List.foldlM_cons,Sem.run_bind,Builtin.min2,Sem.run_pure,Result.andThen_ok]
   exact ZqR l _ k' m vs h hv
  ·cases h
 | [],_,_,_,_::_,_,hv=>by simp [VRL] at hv
 | .int _ _::_,_,_,_,[],_,hv=>by simp [VRL] at hv
 | .undef::l,_,_,_,_,h,_=>by simp [Zb6] at h
 | .bool _::l,_,_,_,_,h,_=>by simp [Zb6] at h
 | .str _::l,_,_,_,_,h,_=>by simp [Zb6] at h
 | .ro _ _::l,_,_,_,_,h,_=>by simp [Zb6] at h
 | .roe _ _ _::l,_,_,_,_,h,_=>by simp [Zb6] at h
 | .nilsl::l,_,_,_,_,h,_=>by simp [Zb6] at h
 | .nilp::l,_,_,_,_,h,_=>by simp [Zb6] at h
 | .ptr _ _::l,_,_,_,_,h,_=>by simp [Zb6] at h
 | .full _::l,_,_,_,_,h,_=>by simp [Zb6] at h
 | .psl _ _ _ _::l,_,_,_,_,h,_=>by simp [Zb6] at h
 | .elp _ _ _ _::l,_,_,_,_,h,_=>by simp [Zb6] at h
 | .map _::l,_,_,_,_,h,_=>by simp [Zb6] at h
 | .fn _ _ _::l,_,_,_,_,h,_=>by simp [Zb6] at h
 | .agg _::l,_,_,_,_,h,_=>by simp [Zb6] at h
 | .tup _::l,_,_,_,_,h,_=>by simp [Zb6] at h
 | .gptr _ _::l,_,_,_,_,h,_=>by simp [Zb6] at h
theorem ZqU {P:Program} {w:World} (k:IntKind) (x y:Int):(Builtin.max2 (.int k x) (.int k y)).run P w=.ok (.int k (Zp4 x y)) w:=by
 simp [Builtin.max2,Zp4]
theorem ZqT {P:Program} {w:World} {k:IntKind}:∀(l:List AV) (n:Int) (k':IntKind) (m:Int) (vs:List Value),Zb6 Zp4 k n l=some (k',m)→VRL ι N w l vs→
  (vs.foldlM Builtin.max2 (.int k n)).run P w=.ok (.int k' m) w
 | [],n,k',m,[],h,_=>by simp [Zb6] at h;obtain ⟨rfl,rfl⟩:=h;rfl
 | .int k2 n2::l,n,k',m,v::vs,h,hv=>by
  simp only [Zb6] at h
  split at h
  ·rename_i e;subst e
   simp only [VRL,VR] at hv
   obtain ⟨rfl,hv⟩:=hv
   simp only [List.foldlM_cons,Sem.run_bind,ZqU,Result.andThen_ok]
   exact ZqT l _ k' m vs h hv
  ·cases h
 | [],_,_,_,_::_,_,hv=>by simp [VRL] at hv
 | .int _ _::_,_,_,_,[],_,hv=>by simp [VRL] at hv
 | .undef::l,_,_,_,_,h,_=>by simp [Zb6] at h
 | .bool _::l,_,_,_,_,h,_=>by simp [Zb6] at h
 | .str _::l,_,_,_,_,h,_=>by simp [Zb6] at h
 | .ro _ _::l,_,_,_,_,h,_=>by simp [Zb6] at h
 | .roe _ _ _::l,_,_,_,_,h,_=>by simp [Zb6] at h
 | .nilsl::l,_,_,_,_,h,_=>by simp [Zb6] at h
 | .nilp::l,_,_,_,_,h,_=>by simp [Zb6] at h
 | .ptr _ _::l,_,_,_,_,h,_=>by simp [Zb6] at h
 | .full _::l,_,_,_,_,h,_=>by simp [Zb6] at h
 | .psl _ _ _ _::l,_,_,_,_,h,_=>by simp [Zb6] at h
 | .elp _ _ _ _::l,_,_,_,_,h,_=>by simp [Zb6] at h
 | .map _::l,_,_,_,_,h,_=>by simp [Zb6] at h
 | .fn _ _ _::l,_,_,_,_,h,_=>by simp [Zb6] at h
 | .agg _::l,_,_,_,_,h,_=>by simp [Zb6] at h
 | .tup _::l,_,_,_,_,h,_=>by simp [Zb6] at h
 | .gptr _ _::l,_,_,_,_,h,_=>by simp [Zb6] at h
theorem Zke {f:Int→Int→Int} {l:List AV} {k:IntKind} {m:Int} (h:Zru f l=some (k,m)):∃k0 n l',l=.int k0 n::l'∧Zb6 f k0 n l'=some (k,m):=by
 cases l with
 | nil=>simp [Zru] at h
 | cons a l=>cases a<;>simp [Zru] at h;exact ⟨_,_,_,rfl,h⟩
theorem Zph (T:Zey E.P E.C) (R:ZbF E ι N h w) (hv:∀x,VR ι N w (av x) (ev x)) {b:Builtin} (hi:b=.append→ι nid=none) {args:Array Operand} {argTypes:Array TypeId} {o:Oper}
  (ho:o.op=.call { callee:=.builtin b,args,argTypes }) (H:Zcy E.C (.call { callee:=.builtin b,args,argTypes }) av h nid K=some r):∃v d,K v d=some r∧Res E ι N h w nid (execOp ev o) v d:=by
 simp only [Zcy] at H
 split at H
 ·rename_i x hx
  have hargs:args= #[x]:=by apply Array.ext';simpa using hx
  split at H
  ·rename_i t ht
   have htys:argTypes= #[t]:=by apply Array.ext';simpa using ht
   cases hs:Zdp (E.C.ty t).d with
   | false=>rw [hs] at H;simp at H
   | true=>
    rw [hs] at H;simp only [cond_true] at H
    obtain ⟨v,val,H,hvr,hrun⟩:=Zrc R T hs (hv x) H
    refine ⟨v,[],H,Res.pure R (ZdT ho fun c=>?_) hvr⟩
    subst hargs htys
    simp [builtin,hrun]
  ·cases H
 ·rename_i sl x hx
  have hargs:args= #[sl,x]:=by apply Array.ext';simpa using hx
  split at H
  ·rename_i t1 t2 ht
   have htys:argTypes= #[t1,t2]:=by apply Array.ext';simpa using ht
   split at H
   ·rename_i e he
    cases hs:Zdp (E.C.ty t2).d with
    | false=>rw [hs] at H;simp at H
    | true=>
     rw [hs] at H;simp only [cond_true] at H
     obtain ⟨v,d,H,val,w',ι',hrun,hvr,L,R',h1,h2⟩:=Zub T R (hi rfl) he hs (hv sl) (hv x) H
     refine ⟨v,d,H,val,w',ι',N,.inl (ZdT ho fun c=>?_),hvr,L,R',.inr ⟨h1,h2⟩,fun b hb=>.inl hb⟩
     subst hargs htys
     simp [builtin,hrun]
   ·cases H
  ·cases H
 ·split at H
  ·rename_i k n hf
   obtain ⟨k0,n0,l',hl,hf⟩:=Zke hf
   have hvl:=VRL.mapL hv args.toList
   rw [hl] at hvl
   cases hargs:args.toList with
   | nil=>rw [hargs] at hvl;simp [VRL] at hvl
   | cons y ys=>
    rw [hargs] at hvl
    simp only [List.map_cons,VRL,VR] at hvl
    refine ⟨_,[],H,Res.pure R (val:=.int k n) (ZdT ho fun c=>?_) (by simp only [VR])⟩
    have hm:(args.map ev).toList=.int k0 n0::ys.map ev:=by rw [Array.toList_map,hargs];simp [hvl.1]
    have:=ZqR (P:=E.P) l' n0 k n (ys.map ev) hf hvl.2
    simp only [builtin,Builtin.min_,hm,Sem.run_bind,this];rfl
  ·cases H
 ·split at H
  ·rename_i k n hf
   obtain ⟨k0,n0,l',hl,hf⟩:=Zke hf
   have hvl:=VRL.mapL hv args.toList
   rw [hl] at hvl
   cases hargs:args.toList with
   | nil=>rw [hargs] at hvl;simp [VRL] at hvl
   | cons y ys=>
    rw [hargs] at hvl
    simp only [List.map_cons,VRL,VR] at hvl
    refine ⟨_,[],H,Res.pure R (val:=.int k n) (ZdT ho fun c=>?_) (by simp only [VR])⟩
    have hm:(args.map ev).toList=.int k0 n0::ys.map ev:=by rw [Array.toList_map,hargs];simp [hvl.1]
    have:=ZqT (P:=E.P) l' n0 k n (ys.map ev) hf hvl.2
    simp only [builtin,Builtin.max_,hm,Sem.run_bind,this];rfl
  ·cases H
 ·cases H
theorem ZqI (R:ZbF E ι N h w) (hv:∀x,VR ι N w (av x) (ev x)) {x:Operand} {o:Oper} (ho:o.op=.move x∨o.op=.assign x)
  (H:K (av x) []=some r):∃v d,K v d=some r∧Res E ι N h w nid (execOp ev o) v d:=by
 refine ⟨_,_,H,Res.pure R (val:=ev x) ?_ (hv x)⟩
 rcases ho with ho | ho<;>simp [execOp,ho]
def ZsA:Op→Bool
 | .makeMap _ _=>true
 | .alloc _ | .box _ _ | .buildSlice _ _ _ | .makeSlice _ _ _=>true
 | .call { callee:=.builtin .append,.. }=>true
 | _=>false
theorem ZpN (T:Zey E.P E.C) (R:ZbF E ι N h w) (hv:∀x,VR ι N w (av x) (ev x)) {o:Oper} (hi:ZsA o.op=true→ι nid=none)
  (H:Zcy E.C o.op av h nid K=some r):∃v d,K v d=some r∧Res E ι N h w nid (execOp ev o) v d:=by
 generalize hop:o.op=op at H hi
 cases op with
 | move x=>exact ZqI R hv (.inl hop) (by simpa only [Zcy] using H)
 | assign x=>exact ZqI R hv (.inr hop) (by simpa only [Zcy] using H)
 | pick c a b=>exact ZtE R hv hop H
 | alloc t=>exact Zsz T R (hi rfl) hop H
 | box t x=>exact op_box R hv (hi rfl) hop H
 | build t ps=>exact Zsx T R hv hop H
 | buildSlice t n ps=>exact ZkS T R hv (hi rfl) hop H
 | load t p=>exact ZtF T R hv hop H
 | store t p x=>exact Zst T R hv hop H
 | nilCheck x=>exact Znm R hv hop H
 | binOp op t x y u=>exact Zsy T R hv hop H
 | unOp op t x=>exact ZtD T R hv hop H
 | convert t u x=>exact Zpg T R hv hop H
 | makeFunc f a b=>exact Znn R hv hop H
 | makeSlice t l c=>exact ZlV T R hv (hi rfl) hop H
 | slice t x lo hi mx=>exact Zsu T R hv hop H
 | fieldAddr t x f=>exact ZlX T R hv hop H
 | field t x f=>exact Zsw T R hv hop H
 | indexAddr t x i=>exact ZlW T R hv hop H
 | index t x i=>exact Zsv T R hv hop H
 | extract x i=>exact Zpf R hv hop H
 | makeMap t x=>exact Zpe T R (hi rfl) hop H
 | mapUpdate t m k x=>exact ZlU T R hv hop H
 | lookup t x k ok=>exact ZqJ T R hv hop H
 | call c=>
  obtain ⟨cal,args,tys⟩:=c
  cases cal with
  | builtin b=>exact Zph T R hv (fun e=>hi (by subst e;rfl)) hop H
  | _=>simp [Zcy] at H
 | _=>simp [Zcy] at H
end
end Ev
end
section
namespace Ev
open Go
structure M.Ext (m m':M):Prop where
 ren:∀j i,Zdm m.ren j=some i→Zdm m'.ren j=some i
 add:∃l,m'.add=l++m.add
 frz:∀i,i∈m.frz→i∈m'.frz
theorem M.Ext.refl (m:M):m.Ext m:=⟨fun _ _ h=>h,⟨[],rfl⟩,fun _ h=>h⟩
theorem M.Ext.trans {a b c:M} (h:a.Ext b) (k:b.Ext c):a.Ext c:=
 ⟨fun j i e=>k.ren j i (h.ren j i e),by obtain ⟨l,e⟩:=h.add;obtain ⟨l',e'⟩:=k.add;exact ⟨l'++l,by rw [e',e,List.append_assoc]⟩,fun i e=>k.frz i (h.frz i e)⟩
theorem M.ref_ext {m m':M} {j id:Nat} (h:m.ref j id=some m'):m.Ext m'∧Zdm m'.ren j=some id∧m'.ds=m.ds∧m'.add=m.add∧m'.frz=m.frz∧m'.nid=m.nid:=by
 unfold M.ref at h
 split at h
 ·rename_i i hi
  cases hb:Nat.beq i id with
  | false=>rw [hb] at h;simp at h
  | true=>
   rw [hb] at h;simp only [cond_true,Option.some.injEq] at h;subst h
   exact ⟨.refl m,by rw [hi,Nat.eq_of_beq_eq_true hb],rfl,rfl,rfl,rfl⟩
 ·rename_i hi
  cases hb:Zfc m.ren id with
  | true=>rw [hb] at h;simp at h
  | false=>
   rw [hb] at h;simp only [cond_false,Option.some.injEq] at h;subst h
   refine ⟨⟨fun k i e=>?_,⟨[],rfl⟩,fun _ h=>h⟩,by simp [Zdm],rfl,rfl,rfl,rfl⟩
   simp only [Zdm]
   cases hk:Nat.beq j k with
   | false=>simpa using e
   | true=>have:=Nat.eq_of_beq_eq_true hk;subst this;rw [hi] at e;cases e
mutual
theorem ZqQ {h:Nat→Ob} {ots:Nat→OT}:∀(tp:Tp) (a:AV) (m m':M),Tp.mt h ots tp a m=some m'→m.Ext m'
 | .undef,a,m,m',H=>by simp only [Tp.mt,Option.some.injEq] at H;subst H;exact .refl m
 | .sc d,a,m,m',H=>by
  have data:∀x,m.Ext (m.data x):=fun x=>⟨fun _ _ h=>h,⟨[],rfl⟩,fun _ h=>h⟩
  cases d with
  | int k=>
   cases a<;>simp only [Tp.mt] at H<;>try (cases H;done)
   split at H
   ·cases H;exact data _
   ·cases H
  | bool=>
   cases a<;>simp only [Tp.mt] at H<;>try (cases H;done)
   cases H;exact data _
  | str=>
   cases a<;>simp only [Tp.mt] at H<;>try (cases H;done)
   cases H;exact data _
  | list t=>
   simp only [Tp.mt] at H
   split at H
   ·cases H;exact ⟨fun _ _ h=>h,⟨[],rfl⟩,fun i hi=>by simp [ZcL,hi]⟩
   ·cases H
  | map k v=>simp only [Tp.mt] at H;cases H
 | .full j,a,m,m',H=>by
  cases a<;>simp only [Tp.mt] at H<;>try (cases H;done)
  case full id=>exact (M.ref_ext H).1
  case nilsl=>
   split at H
   ·obtain ⟨h1,h2,h3,h4,h5,h6⟩:=M.ref_ext H
    exact ⟨fun j i e=>h1.ren j i e,by rw [h4];exact ⟨[_],rfl⟩,fun i hi=>h1.frz i hi⟩
   ·cases H
 | .ptr j o,a,m,m',H=>by
  cases a<;>simp only [Tp.mt] at H<;>try (cases H;done)
  rename_i id o'
  cases hb:Nat.beq o o' with
  | false=>rw [hb] at H;simp at H
  | true=>rw [hb] at H;exact (M.ref_ext H).1
 | .map j,a,m,m',H=>by
  cases a<;>simp only [Tp.mt] at H<;>try (cases H;done)
  exact (M.ref_ext H).1
 | .nilp,a,m,m',H=>by
  cases a<;>simp only [Tp.mt] at H<;>try (cases H;done)
  cases H;exact .refl _
 | .cint k n,a,m,m',H=>by
  cases a<;>simp only [Tp.mt] at H<;>try (cases H;done)
  split at H
  ·split at H
   ·cases H;exact .refl _
   ·cases H
  ·cases H
 | .cstr s,a,m,m',H=>by
  cases a<;>simp only [Tp.mt] at H<;>try (cases H;done)
  split at H
  ·cases H;exact .refl _
  ·cases H
 | .cbool s,a,m,m',H=>by
  cases a<;>simp only [Tp.mt] at H<;>try (cases H;done)
  split at H
  ·cases H;exact .refl _
  ·cases H
 | .gptr g o,a,m,m',H=>by
  cases a<;>simp only [Tp.mt] at H<;>try (cases H;done)
  rename_i g' o'
  cases hb:(Nat.beq g g'&&Nat.beq o o') with
  | false=>rw [hb] at H;simp at H
  | true=>rw [hb] at H;simp only [cond_true,Option.some.injEq] at H;subst H;exact .refl _
 | .fn f x y,a,m,m',H=>by
  cases a<;>simp only [Tp.mt] at H<;>try (cases H;done)
  rename_i f' x' y'
  cases hb:Nat.beq f f' with
  | false=>rw [hb] at H;simp at H
  | true=>
   rw [hb] at H;simp only [cond_true] at H
   split at H
   ·rename_i m1 hm1
    exact (Zem x x' m m1 hm1).trans (Zem y y' m1 m' H)
   ·cases H
 | .agg l,a,m,m',H=>by
  cases a<;>simp only [Tp.mt] at H<;>try (cases H;done)
  exact Zem l _ m m' H
 | .tup l,a,m,m',H=>by
  cases a<;>simp only [Tp.mt] at H<;>try (cases H;done)
  exact Zem l _ m m' H
theorem Zem {h:Nat→Ob} {ots:Nat→OT}:∀(tps:List Tp) (as:List AV) (m m':M),Tp.mts h ots tps as m=some m'→m.Ext m'
 | [],as,m,m',H=>by
  cases as<;>simp only [Tp.mts] at H<;>try (cases H;done)
  cases H;exact .refl _
 | tp::tps,as,m,m',H=>by
  cases as<;>simp only [Tp.mts] at H<;>try (cases H;done)
  split at H
  ·rename_i m1 hm1
   exact (ZqQ tp _ m m1 hm1).trans (Zem tps _ m1 m' H)
  ·cases H
end
structure Img (E:Env) (ι:Nat→Option Value) (N:Nat→Prop) (h:Nat→Ob) (w:World) (mf:M) (ι2 ι':Nat→Option Value) (N':Nat→Prop):Prop where
 rep:ZbF E ι N h w
 ren:∀j i,Zdm mf.ren j=some i→ι' j=ι2 i
 old:∀i v,ι i=some v→ι2 i=some v
 add:∀x,x∈mf.add→ι2 x.1=some (.slice none 0 0)
 ro:∀b,N b→N' b
 frz:∀i v b,i∈mf.frz→ι i=some v→Zbi v=some b→N' b
section
variable {E:Env} {ι:Nat→Option Value} {N:Nat→Prop} {h:Nat→Ob} {w:World} {mf:M} {ι2 ι':Nat→Option Value} {N':Nat→Prop} {ots:Nat→OT}
theorem Zsj (I:Img E ι N h w mf ι2 ι' N') {t:FT} {a:AV} {xs:List (El t)} {ids:List Nat} (hr:Zp1 h t a=some (xs,ids)) (hm:∀i,i∈ids→i∈mf.frz) {v:Value} (hv:VR ι N w a v) :
  RoG (VRc N' w) N' w t xs v:=by
 unfold Zp1 at hr
 split at hr
 ·rename_i t' ys
  split at hr
  ·rename_i e;subst e;cases hr
   simp only [VR] at hv
   exact hv.mono (fun _ _=>VRc.mono I.ro fun _ _=>rfl) I.ro fun _ _=>rfl
  ·cases hr
 ·cases hr;simp only [VR] at hv;exact ⟨none,0,hv,.inl rfl⟩
 ·rename_i id
  split at hr
  ·rename_i t' ys hx
   split at hr
   ·rename_i e;subst e;cases hr
    simp only [VR] at hv
    exact I.rep.reads hx hv.1 I.ro fun b hb=>I.frz id v b (hm id (by simp)) hv.1 hb
   ·cases hr
  ·cases hr
 ·rename_i id sz o n
  split at hr
  ·rename_i t' ys hx
   split at hr
   ·rename_i e;subst e
    cases hsz:Nat.beq sz (Zax t') with
    | false=>rw [hsz] at hr;simp at hr
    | true=>
     rw [hsz] at hr;simp only [cond_true,Option.some.injEq,Prod.mk.injEq] at hr
     obtain ⟨rfl,rfl⟩:=hr
     have hsz':sz=Zax t':=Nat.eq_of_beq_eq_true hsz
     simp only [VR] at hv
     obtain ⟨a,n',cap,hι,hon,a',cap',rfl,hcp',hcase⟩:=hv
     have hread:=I.rep.reads hx hι I.ro fun b hb=>I.frz id _ b (hm id (by simp)) hι hb
     obtain ⟨a2,cap2,e1,hr2⟩:=hread
     simp only [Value.slice.injEq] at e1
     obtain ⟨rfl,rfl,rfl⟩:=e1
     have hlen:((ys.drop o).take n).length=n:=by simp;omega
     by_cases h0:n=0
     ·subst h0;exact ⟨a',cap',by simp,.inl (by simp)⟩
     ·rcases hcase with h1 | ⟨b,p,rfl,rfl⟩
      ·exact absurd h1 h0
      ·rcases hr2 with h1 | ⟨b',p',⟨e,hcp⟩,hN,c,T0,fz,hheap,hel⟩
       ·subst h1;simp at hon;omega
       ·simp at e;obtain ⟨rfl,rfl⟩:=e
        refine ⟨_,cap',by rw [hlen],.inr ⟨b,p+o*sz,⟨rfl,by rw [hlen];exact hcp'⟩,hN,c,T0,fz,hheap,fun j x hj=>?_⟩⟩
        rw [List.getElem?_take] at hj
        split at hj
        ·rw [List.getElem?_drop] at hj
         have:=hel (o+j) x hj
         rw [Nat.add_mul,←Nat.add_assoc,←hsz'] at this
         rw [←hsz']
         exact this
        ·cases hj
   ·cases hr
  ·cases hr
 ·cases hr
mutual
theorem ZhS (I:Img E ι N h w mf ι2 ι' N'):∀(tp:Tp) (a:AV) (m m':M) (v:Value),Tp.mt h ots tp a m=some m'→m'.Ext mf→VR ι N w a v→
  m.Ext m'∧∃new av,m'.ds=new.reverse++m.ds∧(∀rest,Tp.inst (fun j=>j) tp (new++rest)=(av,rest))∧VR ι' N' w av v
 | .undef,a,m,m',v,H,X,hv=>by
  simp only [Tp.mt,Option.some.injEq] at H;subst H
  exact ⟨.refl m,[],.undef,rfl,fun _=>rfl,by simp only [VR]⟩
 | .sc d,a,m,m',v,H,X,hv=>by
  cases d with
  | int k=>
   cases a<;>simp only [Tp.mt] at H<;>try (cases H;done)
   rename_i k' n
   split at H
   ·rename_i e;subst e;cases H
    simp only [VR] at hv
    exact ⟨⟨fun _ _ h=>h,⟨[],rfl⟩,fun _ h=>h⟩,[⟨.int k,n⟩],.int k n,rfl,fun _=>rfl,by simpa only [VR] using hv⟩
   ·cases H
  | bool=>
   cases a<;>simp only [Tp.mt] at H<;>try (cases H;done)
   rename_i b
   cases H;simp only [VR] at hv
   exact ⟨⟨fun _ _ h=>h,⟨[],rfl⟩,fun _ h=>h⟩,[⟨.bool,b⟩],.bool b,rfl,fun _=>rfl,by simpa only [VR] using hv⟩
  | str=>
   cases a<;>simp only [Tp.mt] at H<;>try (cases H;done)
   rename_i b
   cases H;simp only [VR] at hv
   exact ⟨⟨fun _ _ h=>h,⟨[],rfl⟩,fun _ h=>h⟩,[⟨.str,b⟩],.str b,rfl,fun _=>rfl,by simpa only [VR] using hv⟩
  | list t=>
   simp only [Tp.mt] at H
   split at H
   ·rename_i xs ids hr
    cases H
    refine ⟨⟨fun _ _ h=>h,⟨[],rfl⟩,fun i hi=>by simp [ZcL,hi]⟩,[⟨.list t,xs⟩],.ro t xs,rfl,fun _=>rfl,?_⟩
    simp only [VR]
    exact Zsj I hr (fun i hi=>X.frz i (by simp [ZcL,hi])) hv
   ·cases H
  | map k v=>simp only [Tp.mt] at H;cases H
 | .full j,a,m,m',v,H,X,hv=>by
  cases a<;>simp only [Tp.mt] at H<;>try (cases H;done)
  case full id=>
   obtain ⟨h1,h2,h3,h4,h5,h6⟩:=M.ref_ext H
   simp only [VR] at hv
   exact ⟨h1,[],.full j,by rw [h3];rfl,fun _=>rfl,by simp only [VR];exact ⟨(I.ren j id (X.ren j id h2)).trans (I.old id v hv.1),hv.2⟩⟩
  case nilsl=>
   split at H
   ·rename_i t ht
    obtain ⟨h1,h2,h3,h4,h5,h6⟩:=M.ref_ext H
    simp only [VR] at hv;subst hv
    refine ⟨⟨fun j i e=>h1.ren j i e,?_,fun i hi=>h1.frz i hi⟩,[],.full j,by rw [h3];rfl,fun _=>rfl,?_⟩
    ·rw [h4];exact ⟨[_],rfl⟩
    ·simp only [VR]
     refine ⟨(I.ren j _ (X.ren j _ h2)).trans ?_,none,0,0,rfl⟩
     obtain ⟨l,e⟩:=X.add
     exact I.add (m.nid,.arr t []) (by rw [e,h4];simp)
   ·cases H
 | .ptr j o,a,m,m',v,H,X,hv=>by
  cases a<;>simp only [Tp.mt] at H<;>try (cases H;done)
  rename_i id o'
  cases hb:Nat.beq o o' with
  | false=>rw [hb] at H;simp at H
  | true=>
   rw [hb] at H;simp only [cond_true] at H
   have:=Nat.eq_of_beq_eq_true hb;subst this
   obtain ⟨h1,h2,h3,h4,h5,h6⟩:=M.ref_ext H
   simp only [VR] at hv
   obtain ⟨b,p,e1,e2⟩:=hv
   exact ⟨h1,[],.ptr j o,by rw [h3];rfl,fun _=>rfl,by simp only [VR];exact ⟨b,p,(I.ren j id (X.ren j id h2)).trans (I.old id _ e1),e2⟩⟩
 | .map j,a,m,m',v,H,X,hv=>by
  cases a<;>simp only [Tp.mt] at H<;>try (cases H;done)
  rename_i id
  obtain ⟨h1,h2,h3,h4,h5,h6⟩:=M.ref_ext H
  simp only [VR] at hv
  exact ⟨h1,[],.map j,by rw [h3];rfl,fun _=>rfl,by simp only [VR];exact ⟨(I.ren j id (X.ren j id h2)).trans (I.old id v hv.1),hv.2⟩⟩
 | .nilp,a,m,m',v,H,X,hv=>by
  cases a<;>simp only [Tp.mt] at H<;>try (cases H;done)
  cases H;simp only [VR] at hv
  exact ⟨.refl _,[],.nilp,rfl,fun _=>rfl,by simpa only [VR] using hv⟩
 | .cint k n,a,m,m',v,H,X,hv=>by
  cases a<;>simp only [Tp.mt] at H<;>try (cases H;done)
  split at H
  ·rename_i e;subst e
   split at H
   ·rename_i e;subst e;cases H
    simp only [VR] at hv
    exact ⟨.refl _,[],.int k n,rfl,fun _=>rfl,by simpa only [VR] using hv⟩
   ·cases H
  ·cases H
 | .cstr s,a,m,m',v,H,X,hv=>by
  cases a<;>simp only [Tp.mt] at H<;>try (cases H;done)
  split at H
  ·rename_i e;subst e;cases H
   simp only [VR] at hv
   exact ⟨.refl _,[],.str s,rfl,fun _=>rfl,by simpa only [VR] using hv⟩
  ·cases H
 | .cbool s,a,m,m',v,H,X,hv=>by
  cases a<;>simp only [Tp.mt] at H<;>try (cases H;done)
  split at H
  ·rename_i e;subst e;cases H
   simp only [VR] at hv
   exact ⟨.refl _,[],.bool s,rfl,fun _=>rfl,by simpa only [VR] using hv⟩
  ·cases H
 | .gptr g o,a,m,m',v,H,X,hv=>by
  cases a<;>simp only [Tp.mt] at H<;>try (cases H;done)
  rename_i g' o'
  cases hb:(Nat.beq g g'&&Nat.beq o o') with
  | false=>rw [hb] at H;simp at H
  | true=>
   rw [hb] at H;simp only [cond_true,Option.some.injEq] at H;subst H
   simp only [Bool.and_eq_true] at hb
   have e1:=Nat.eq_of_beq_eq_true hb.1
   have e2:=Nat.eq_of_beq_eq_true hb.2
   subst e1 e2
   simp only [VR] at hv
   exact ⟨.refl _,[],.gptr g o,rfl,fun _=>rfl,by simpa only [VR] using hv⟩
 | .fn f x y,a,m,m',v,H,X,hv=>by
  cases a<;>simp only [Tp.mt] at H<;>try (cases H;done)
  rename_i f' x' y'
  cases hb:Nat.beq f f' with
  | false=>rw [hb] at H;simp at H
  | true=>
   rw [hb] at H;simp only [cond_true] at H
   have:=Nat.eq_of_beq_eq_true hb;subst this
   split at H
   ·rename_i m1 hm1
    simp only [VR] at hv
    obtain ⟨fs,cs,rfl,hv1,hv2⟩:=hv
    have X1:m1.Ext m':=(Zem y y' m1 m' H)
    obtain ⟨E1,n1,a1,d1,i1,r1⟩:=Zdy I x x' m m1 _ hm1 (X1.trans X) hv1
    obtain ⟨E2,n2,a2,d2,i2,r2⟩:=Zdy I y y' m1 m' _ H X hv2
    refine ⟨E1.trans E2,n1++n2,.fn f a1 a2,by rw [d2,d1];simp,fun rest=>?_,by simp only [VR];exact ⟨fs,cs,rfl,r1,r2⟩⟩
    simp only [Tp.inst,List.append_assoc,i1,i2]
   ·cases H
 | .agg l,a,m,m',v,H,X,hv=>by
  cases a<;>simp only [Tp.mt] at H<;>try (cases H;done)
  rename_i l'
  simp only [VR] at hv
  obtain ⟨vs,rfl,hv1,hv2⟩:=hv
  obtain ⟨E1,n1,a1,d1,i1,r1⟩:=Zdy I l l' m m' _ H X hv1
  exact ⟨E1,n1,.agg a1,d1,fun rest=>by simp only [Tp.inst,i1],by simp only [VR];exact ⟨vs,rfl,r1,hv2⟩⟩
 | .tup l,a,m,m',v,H,X,hv=>by
  cases a<;>simp only [Tp.mt] at H<;>try (cases H;done)
  rename_i l'
  simp only [VR] at hv
  obtain ⟨vs,rfl,hv1⟩:=hv
  obtain ⟨E1,n1,a1,d1,i1,r1⟩:=Zdy I l l' m m' _ H X hv1
  exact ⟨E1,n1,.tup a1,d1,fun rest=>by simp only [Tp.inst,i1],by simp only [VR];exact ⟨vs,rfl,r1⟩⟩
theorem Zdy (I:Img E ι N h w mf ι2 ι' N'):∀(tps:List Tp) (as:List AV) (m m':M) (vs:List Value),Tp.mts h ots tps as m=some m'→m'.Ext mf→VRL ι N w as vs→
  m.Ext m'∧∃new avs,m'.ds=new.reverse++m.ds∧(∀rest,Tp.insts (fun j=>j) tps (new++rest)=(avs,rest))∧VRL ι' N' w avs vs
 | [],as,m,m',vs,H,X,hv=>by
  cases as<;>simp only [Tp.mts] at H<;>try (cases H;done)
  cases H
  cases vs with
  | nil=>exact ⟨.refl _,[],[],rfl,fun _=>rfl,by simp only [VRL]⟩
  | cons v vs=>simp [VRL] at hv
 | tp::tps,as,m,m',vs,H,X,hv=>by
  cases as<;>simp only [Tp.mts] at H<;>try (cases H;done)
  rename_i a as
  split at H
  ·rename_i m1 hm1
   cases vs with
   | nil=>simp [VRL] at hv
   | cons v vs=>
    simp only [VRL] at hv
    have X1:m1.Ext m':=(Zem tps as m1 m' H)
    obtain ⟨E1,n1,a1,d1,i1,r1⟩:=ZhS I tp a m m1 v hm1 (X1.trans X) hv.1
    obtain ⟨E2,n2,a2,d2,i2,r2⟩:=Zdy I tps as m1 m' vs H X hv.2
    refine ⟨E1.trans E2,n1++n2,a1::a2,by rw [d2,d1];simp,fun rest=>?_,by simp only [VRL];exact ⟨r1,r2⟩⟩
    simp only [Tp.insts,List.append_assoc,i1,i2]
  ·cases H
end
end
end Ev
end
section
namespace Ev
open Go
theorem Zdx {α β:Type} (b:Bool) (x:Option α) (k:α→Option β):(need b x).bind k=need b (x.bind k):=by cases b<;>rfl
theorem ZbW {α β:Type} (b:Bool) (x y:Option α) (k:α→Option β):(cond b x y).bind k=cond b (x.bind k) (y.bind k):=by cases b<;>rfl
section
variable {ρ:Type}
theorem ZoM (op:BinOp) (i:Bool) (x y:AV) (K:AV→Option ρ):Zt9 op i x y K=(Zt9 op i x y some).bind K:=by
 unfold Zt9
 repeat' split
 all_goals first
  | rfl
  | (simp only [Zdx,ZbW,Option.bind_some,Option.bind_none])
theorem Zhg (s:Str) (lo hi:Option AV) (K:AV→Option ρ):ZeY s lo hi K=(ZeY s lo hi some).bind K:=by
 unfold ZeY
 repeat' split
 all_goals first
  | rfl
  | (simp only [Zdx,ZbW,Option.bind_some,Option.bind_none])
theorem Zii (t:FT) (s:List (El t)) (lo hi:Option AV) (K:AV→Option ρ):Zgz t s lo hi K=(Zgz t s lo hi some).bind K:=by
 unfold Zgz
 repeat' split
 all_goals first
  | rfl
  | (simp only [Zdx,ZbW,Option.bind_some,Option.bind_none])
theorem Zhh (id sz n:Nat) (lo hi:Option AV) (K:AV→Option ρ):ZeZ id sz n lo hi K=(ZeZ id sz n lo hi some).bind K:=by
 unfold ZeZ
 repeat' split
 all_goals first
  | rfl
  | (simp only [Zdx,ZbW,Option.bind_some,Option.bind_none])
theorem Zoj (h:Nat→Ob) (K:AV→Option ρ) (i:Bool) (x:AV):ZtR h K i x=(ZtR h some i x).bind K:=by
 unfold ZtR
 repeat' split
 all_goals first
  | rfl
  | (simp only [Zdx,ZbW,Option.bind_some,Option.bind_none])
def pr (v:AV) (d:Zbf):Option (AV×Zbf):=some (v,d)
def on (K:AV→Zbf→Option ρ) (p:AV×Zbf):Option ρ:=K p.1 p.2
theorem Zs1 (h:Nat→Ob) (nid:Nat) (ft:Option FT) (s x:AV) (K:AV→Zbf→Option ρ):Zuc h nid ft s x K=(Zuc h nid ft s x pr).bind (on K):=by
 unfold Zuc
 repeat' split
 all_goals first
  | rfl
  | (simp only [Zdx,ZbW,Option.bind_some,Option.bind_none,pr,on])
theorem ZsR (C:Ctx) (o:Op) (av:Operand→AV) (h:Nat→Ob) (nid:Nat) (K:AV→Zbf→Option ρ) :
  Zcy C o av h nid K=(Zcy C o av h nid pr).bind (on K):=by
 cases o
 case binOp op t x y u=>
  simp only [Zcy]
  split
  ·repeat' split
   all_goals rfl
  ·rw [ZoM,ZoM (K:=fun v=>pr v [])]
   cases Zt9 op (C.ty t).d.isBool (av x) (av y) some<;>rfl
 case call c=>
  obtain ⟨cal,args,tys⟩:=c
  cases cal<;>simp only [Zcy]<;>try rfl
  split
  ·split
   ·rw [ZbW,Zoj,Zoj (K:=fun v=>pr v [])]
    cases ZtR h some _ _<;>rfl
   ·rfl
  ·split
   ·split
    ·rw [ZbW,Zs1];rfl
    ·rfl
   ·rfl
  ·split<;>rfl
  ·split<;>rfl
  ·rfl
 case slice t x lo hi mx=>
  cases mx with
  | some m=>rfl
  | none=>
   simp only [Zcy]
   split
   ·split
    ·rw [Zhg,Zhg (K:=fun v=>pr v [])]
     cases ZeY _ _ _ some<;>rfl
    ·rfl
   ·rw [ZbW]
    congr 1
    split
    ·rw [ZbW,Zii,Zii (K:=fun v=>pr v [])]
     cases Zgz _ _ _ _ some<;>rfl
    ·split
     ·rw [ZbW,Zhh,Zhh (K:=fun v=>pr v [])]
      cases ZeZ _ _ _ _ _ some<;>rfl
     ·rfl
    ·rfl
   ·rfl
 case makeFunc f a b=>cases f<;>rfl
 case makeMap t x=>
  cases x with
  | some x=>rfl
  | none=>
   simp only [Zcy]
   split
   ·split
    ·rw [ZbW];rfl
    ·rfl
   ·rfl
 all_goals
  try simp only [Zcy]
  try simp only [ZbW]
  try (congr 1;done)
  try congr 1
  try (repeat' split)
  all_goals first
   | rfl
   | (simp only [Zdx,ZbW,Option.bind_some,Option.bind_none,pr,on];done)
   | trace_state
end
end Ev
end
section
namespace Ev
open Go
theorem Ze3 (d:Zbf):ZaI d=d.map (·.1):=by
 induction d with
 | nil=>rfl
 | cons x d ih=>obtain ⟨i,o⟩:=x;simp [ZaI,ih]
theorem Zgr:∀(d:Zbf) {H h:Nat→Ob} {k:Nat},H k=h k→Zc4 H d k=Zc4 h d k
 | [],_,_,_,e=>e
 | (i,o)::d,H,h,k,e=>by
  simp only [Zc4]
  refine Zgr d ?_
  by_cases ek:k=i
  ·subst ek;simp [upd]
  ·simp [upd,ek,e]
theorem ZcT:∀(d:Zbf) {h:Nat→Ob} {k:Nat},k∉ZaI d→Zc4 h d k=h k
 | [],_,_,_=>rfl
 | (i,o)::d,h,k,e=>by
  simp only [ZaI,List.mem_cons,not_or] at e
  simp only [Zc4]
  rw [ZcT d e.2]
  simp [upd,e.1]
theorem ZkB:∀(d:Zbf) {H h:Nat→Ob} {k:Nat},k∈ZaI d→Zc4 H d k=Zc4 h d k
 | [],_,_,_,e=>by simp [ZaI] at e
 | (i,o)::d,H,h,k,e=>by
  simp only [Zc4]
  by_cases hk:k∈ZaI d
  ·exact ZkB d hk
  ·simp only [ZaI,List.mem_cons,hk,or_false] at e
   subst e
   rw [ZcT d hk,ZcT d hk]
   simp [upd]
structure Zsc (E:Env) (ι:Nat→Option Value) (N:Nat→Prop) (h:Nat→Ob) (w:World) (nid:Nat) (v:AV) (d:Zbf) (val:Value) (w':World) (ι':Nat→Option Value) (N':Nat→Prop):Prop where
 vr:VR ι' N' w' v val
 later:Zb1 ι N w ι' N' w'
 rep:ZbF E ι' N' (Zc4 h d) w'
 new:∀k,ι' k=ι k∨(nid≤k∧k∈ZaI d)
 bound:∀b,N' b→N b∨¬E.keep b
def OpR (P:Program) (s:Sem Next) (w:World) (R:Value→World→Prop):Prop:=
 (∃val w',(s.run P w=.ok (.value val) w'∨(s.run P w=.ok .skip w'∧val=undef))∧R val w')∨
 (∃f args,s.run P w=.ok (.enter f args) w∧Calls P f args w fun e w''=>∃val,e=.returned val∧R val w'')∨
 (∃row args w',s.run P w=.ok (.row row args) w'∧Rows P row args w' R)
theorem OpR.mono {P:Program} {s:Sem Next} {w:World} {R R':Value→World→Prop} (h:OpR P s w R) (hr:∀v w',R v w'→R' v w'):OpR P s w R':=by
 rcases h with ⟨val,w',h1,h2⟩ | ⟨f,args,h1,h2⟩ | ⟨row,args,w',h1,h2⟩
 ·exact .inl ⟨val,w',h1,hr _ _ h2⟩
 ·exact .inr (.inl ⟨f,args,h1,Calls.mono h2 fun e w'' ⟨val,e1,e2⟩=>⟨val,e1,hr _ _ e2⟩⟩)
 ·exact .inr (.inr ⟨row,args,w',h1,Rows.mono h2 hr⟩)
theorem OpR.wp {P:Program} {o:Oper} {a:Act} {w:World} {next:Act→World→Prop} {Q:Exit→Act→World→Prop} (h:OpR P (execOp a.eval o) w fun v w'=>next (a.put o.dst v) w') :
  o.wp P a w next Q:=by
 unfold Oper.wp
 rcases h with ⟨val,w',h1,h2⟩ | ⟨f,args,h1,h2⟩ | ⟨row,args,w',h1,h2⟩
 ·rcases h1 with h1 | ⟨h1,rfl⟩<;>rw [h1]<;>exact h2
 ·rw [h1]
  refine Calls.mono h2 fun e w'' ⟨val,e1,e2⟩=>?_
  subst e1;exact e2
 ·rw [h1];exact h2
section
variable {E:Env} {ι:Nat→Option Value} {N:Nat→Prop} {h:Nat→Ob} {w:World} {nid:Nat} {s:Sem Next} {v:AV} {d:Zbf}
theorem ZbF.blk_lt (R:ZbF E ι N h w) {i:Nat} {u:Value} (hd:h i≠.dead) (hu:ι i=some u) {b:Nat} (hb:Zbi u=some b):own N E.keep b∧b<w.heap.size:=by
 obtain ⟨u',hu',ho⟩:=R.ob i hd
 rw [hu] at hu';cases hu'
 exact ho.blk hd hb
theorem Res.opR (R0:ZbF E ι N h w) (R:Res E ι N h w nid s v d) (hi:nid∈d.map (·.1)→ι nid=none):OpR E.P s w fun val w'=>∃ι' N',Zsc E ι N h w nid v d val w' ι' N':=by
 obtain ⟨val,w',ι',N',h1,h2,h3,h4,h5,h6⟩:=R
 refine .inl ⟨val,w',h1,ι',N',h2,h3,h4,fun k=>?_,fun b hb=>(h6 b hb).imp id fun ⟨i,u,e1,e2,e3⟩=>(R0.blk_lt e3 e1 e2).1.2⟩
 rcases h5 with rfl | ⟨⟨u,rfl⟩,hm⟩
 ·exact .inl rfl
 ·by_cases e:k=nid
  ·subst e;exact .inr ⟨Nat.le_refl _,by rw [Ze3];exact hm⟩
  ·exact .inl (by simp [updL,e])
def ZnO (E:Env) (ι:Nat→Option Value) (h H:Nat→Ob) (b:Nat):Prop:=
 E.keep b∨∃i v,h i≠.dead∧H i=.dead∧ι i=some v∧Zbi v=some b
def Env.part (E:Env) (ι:Nat→Option Value) (h H:Nat→Ob) (w:World):Env:=⟨E.P,E.C,w,ZnO E ι h H⟩
theorem ZbF.part (R:ZbF E ι N h w) {H:Nat→Ob} (hH:∀i,H i=h i∨H i=.dead):ZbF (E.part ι h H w) ι N H w:=by
 have live:∀{i},H i≠.dead→H i=h i:=fun {i} hi=>(hH i).resolve_right hi
 refine ⟨fun i hi=>?_,fun i j b e hi hj=>R.sep i j b e (live hi ▸ hi) (live hj ▸ hj),R.nlt,fun b hb=>?_,⟨rfl,rfl,rfl,Nat.le_refl _,fun _ _=>rfl⟩,R.glob⟩
 ·have hi':h i≠.dead:=live hi ▸ hi
  obtain ⟨u,hu,ho⟩:=R.ob i hi'
  refine ⟨u,hu,?_⟩
  rw [live hi]
  have key:∀b,Zbi u=some b→¬ZnO E ι h H b:=by
   rintro b hb (hk | ⟨j,x,h1,h2,h3,h4⟩)
   ·exact (ho.blk hi' hb).1.2 hk
   ·have e:i≠j:=by rintro rfl;exact hi h2
    exact R.sep i j b e hi' h1 (by rw [hu];exact hb) (by rw [h3];exact h4)
  generalize h i=o at *
  cases o with
  | dead=>trivial
  | box cs=>
   obtain ⟨b,o,c,T,rfl,h1,h2,h3⟩:=ho
   exact ⟨b,o,c,T,rfl,⟨h1.1,key b rfl⟩,h2,h3⟩
  | arr t xs=>
   obtain ⟨a,cap,rfl,hle,ho⟩:=ho
   refine ⟨a,cap,rfl,hle,?_⟩
   rcases ho with rfl | ⟨b,c,T,rfl,h1,h2,h3,h4⟩
   ·exact .inl rfl
   ·by_cases hc:cap=0
    ·exact .inl hc
    ·exact .inr ⟨b,c,T,rfl,⟨h1.1,key b (by simp [Zbi,hc])⟩,h2,h3,h4⟩
  | map kt vt es=>
   obtain ⟨r,ents,clock,rfl,h1,h2,h3,h4⟩:=ho
   exact ⟨r,ents,clock,rfl,⟨h1.1,key r rfl⟩,h2,h3,h4⟩
 ·rcases hb with hk | ⟨j,x,h1,h2,h3,h4⟩
  ·exact R.klt b hk
  ·exact (R.blk_lt h1 h3 h4).2
theorem ObR.less {N keep keep':Nat→Prop} {val:Value} {o:Ob} (ho:ObR ι N keep w val o) (hk:∀b,keep' b→keep b):ObR ι N keep' w val o:=by
 cases o with
 | dead=>trivial
 | box cs=>
  obtain ⟨b,o,c,T,rfl,h1,h2,h3⟩:=ho
  exact ⟨b,o,c,T,rfl,⟨h1.1,fun x=>h1.2 (hk b x)⟩,h2,h3⟩
 | arr t xs=>
  obtain ⟨a,cap,rfl,hle,ho⟩:=ho
  refine ⟨a,cap,rfl,hle,?_⟩
  rcases ho with rfl | ⟨b,c,T,rfl,h1,h2,h3,h4⟩
  ·exact .inl rfl
  ·exact .inr ⟨b,c,T,rfl,⟨h1.1,fun x=>h1.2 (hk b x)⟩,h2,h3,h4⟩
 | map kt vt es=>
  obtain ⟨r,ents,clock,rfl,h1,h2,h3,h4⟩:=ho
  exact ⟨r,ents,clock,rfl,⟨h1.1,fun x=>h1.2 (hk r x)⟩,h2,h3,h4⟩
theorem Zsc.whole (R:ZbF E ι N h w) {H:Nat→Ob} (hH:∀i,H i=h i∨H i=.dead) {val:Value} {w':World} {ι':Nat→Option Value} {N':Nat→Prop}
  (p:Zsc (E.part ι h H w) ι N H w nid v d val w' ι' N') (hk:∀k,k∈ZaI d→H k=h k):Zsc E ι N h w nid v d val w' ι' N':=by
 have live:∀{i},H i≠.dead→H i=h i:=fun {i} hi=>(hH i).resolve_right hi
 have asd:∀i,h i≠.dead→H i=.dead→Zc4 h d i=h i:=fun i h1 h2=>ZcT d fun hm=>h1 ((hk i hm).symm.trans h2)
 have same:∀i,¬(h i≠.dead∧H i=.dead)→Zc4 h d i=Zc4 H d i:=fun i hn=>by
  refine Zgr d ?_
  rcases hH i with e | e
  ·exact e.symm
  ·by_cases hd:h i=.dead
   ·rw [hd,e]
   ·exact absurd ⟨hd,e⟩ hn
 have blkAside:∀{i u b},h i≠.dead→H i=.dead→ι i=some u→Zbi u=some b→ZnO E ι h H b:=fun h1 h2 h3 h4=>.inr ⟨_,_,h1,h2,h3,h4⟩
 refine ⟨p.vr,p.later,⟨fun i hi=>?_,fun i j b e hi hj hb=>?_,p.rep.nlt,fun b hb=>p.rep.klt b (.inl hb),?_,p.rep.glob⟩,p.new,fun b hb=>?_⟩
 ·by_cases ha:h i≠.dead∧H i=.dead
  ·rw [asd i ha.1 ha.2]
   obtain ⟨u,hu,ho⟩:=R.ob i ha.1
   refine ⟨u,p.later.loc i u hu,ho.keep p.later (fun b hb ow=>⟨fun hn=>?_,ow.2⟩) fun b hb=>p.rep.pres.mem b (blkAside ha.1 ha.2 hu hb)⟩
   rcases p.bound b hn with x | x
   ·exact ow.1 x
   ·exact x (blkAside ha.1 ha.2 hu hb)
  ·rw [same i ha] at hi ⊢
   obtain ⟨u,hu,ho⟩:=p.rep.ob i hi
   exact ⟨u,hu,ho.less fun b hb=>.inl hb⟩
 ·by_cases hai:h i≠.dead∧H i=.dead
  ·obtain ⟨u,hu,ho⟩:=R.ob i hai.1
   have hu':=p.later.loc i u hu
   rw [hu'] at hb
   by_cases haj:h j≠.dead∧H j=.dead
   ·obtain ⟨x,hx,_⟩:=R.ob j haj.1
    rw [p.later.loc j x hx]
    intro hc
    exact R.sep i j b e hai.1 haj.1 (by rw [hu];exact hb) (by rw [hx];exact hc)
   ·rw [same j haj] at hj
    intro hc
    obtain ⟨x,hx,hox⟩:=p.rep.ob j hj
    rw [hx] at hc
    exact (hox.blk hj hc).1.2 (blkAside hai.1 hai.2 hu hb)
  ·rw [same i hai] at hi
   by_cases haj:h j≠.dead∧H j=.dead
   ·obtain ⟨x,hx,_⟩:=R.ob j haj.1
    rw [p.later.loc j x hx]
    intro hc
    obtain ⟨u,hu,hou⟩:=p.rep.ob i hi
    rw [hu] at hb
    exact (hou.blk hi hb).1.2 (blkAside haj.1 haj.2 hx hc)
   ·rw [same j haj] at hj
    exact p.rep.sep i j b e hi hj hb
 ·have q:=p.rep.pres
  exact ⟨q.os.trans R.pres.os,q.tape.trans R.pres.tape,q.output.trans R.pres.output,Nat.le_trans R.pres.size q.size,fun b hb=>(q.mem b (.inl hb)).trans (R.pres.mem b hb)⟩
 ·exact (p.bound b hb).imp id fun x y=>x (.inl y)
end
end Ev
end
section
namespace Ev
open Go
structure MOk (h:Nat→Ob) (nid0:Nat) (m:M):Prop where
 inj:∀j j' i,Zdm m.ren j=some i→Zdm m.ren j'=some i→j=j'
 has:∀j i,Zdm m.ren j=some i→Zfc m.ren i=true
 add:∀x,x∈m.add→(∃t,x.2=.arr t [])∧nid0≤x.1∧x.1<m.nid
 frz:∀i,i∈m.frz→∃t xs,h i=.arr t xs
 nid:nid0≤m.nid
section
variable {h:Nat→Ob} {nid0:Nat} {ots:Nat→OT}
theorem MOk.data {m:M} (o:MOk h nid0 m) (x:Dat):MOk h nid0 (m.data x):=⟨o.inj,o.has,o.add,o.frz,o.nid⟩
theorem MOk.ref {m m':M} {j id:Nat} (o:MOk h nid0 m) (H:m.ref j id=some m'):MOk h nid0 m':=by
 unfold M.ref at H
 split at H
 ·cases hb:Nat.beq _ id with
  | false=>rw [hb] at H;simp at H
  | true=>rw [hb] at H;simp only [cond_true,Option.some.injEq] at H;subst H;exact o
 ·rename_i hn
  cases hb:Zfc m.ren id with
  | true=>rw [hb] at H;simp at H
  | false=>
   rw [hb] at H;simp only [cond_false,Option.some.injEq] at H;subst H
   refine ⟨fun k k' i e e'=>?_,fun k i e=>?_,o.add,o.frz,o.nid⟩
   ·simp only [Zdm] at e e'
    cases h1:Nat.beq j k<;>cases h2:Nat.beq j k'<;>rw [h1] at e<;>rw [h2] at e'<;>simp only [cond_true,cond_false,Option.some.injEq] at e e'
    ·exact o.inj k k' i e e'
    ·subst e';have:=o.has k _ e;rw [hb] at this;cases this
    ·subst e;have:=o.has k' _ e';rw [hb] at this;cases this
    ·exact (Nat.eq_of_beq_eq_true h1).symm.trans (Nat.eq_of_beq_eq_true h2)
   ·simp only [Zdm] at e
    simp only [Zfc]
    cases h1:Nat.beq j k<;>rw [h1] at e<;>simp only [cond_true,cond_false,Option.some.injEq] at e
    ·rw [o.has k i e];cases Nat.beq id i<;>rfl
    ·subst e;simp
theorem Zsk {t:FT} {a:AV} {xs:List (El t)} {ids:List Nat} (hr:Zp1 h t a=some (xs,ids)):∀i,i∈ids→∃t xs,h i=.arr t xs:=by
 intro i hi
 unfold Zp1 at hr
 split at hr
 ·split at hr
  ·cases hr;simp at hi
  ·cases hr
 ·cases hr;simp at hi
 ·split at hr
  ·rename_i hx
   split at hr
   ·cases hr;simp at hi;subst hi;exact ⟨_,_,hx⟩
   ·cases hr
  ·cases hr
 ·split at hr
  ·rename_i hx
   split at hr
   ·cases hb:Nat.beq _ (Zax t) with
    | false=>rw [hb] at hr;simp at hr
    | true=>
     rw [hb] at hr;simp only [cond_true,Option.some.injEq,Prod.mk.injEq] at hr
     obtain ⟨-,rfl⟩:=hr
     simp at hi;subst hi;exact ⟨_,_,hx⟩
   ·cases hr
  ·cases hr
 ·cases hr
mutual
theorem ZtG:∀(tp:Tp) (a:AV) (m m':M),Tp.mt h ots tp a m=some m'→MOk h nid0 m→MOk h nid0 m'
 | .undef,a,m,m',H,o=>by simp only [Tp.mt,Option.some.injEq] at H;subst H;exact o
 | .sc d,a,m,m',H,o=>by
  cases d with
  | int k=>
   cases a<;>simp only [Tp.mt] at H<;>try (cases H;done)
   split at H
   ·cases H;exact o.data _
   ·cases H
  | bool=>
   cases a<;>simp only [Tp.mt] at H<;>try (cases H;done)
   cases H;exact o.data _
  | str=>
   cases a<;>simp only [Tp.mt] at H<;>try (cases H;done)
   cases H;exact o.data _
  | list t=>
   simp only [Tp.mt] at H
   split at H
   ·rename_i hr
    cases H
    exact ⟨o.inj,o.has,o.add,fun i hi=>by
     simp only [ZcL,List.mem_append] at hi
     exact hi.elim (Zsk hr i) (o.frz i),o.nid⟩
   ·cases H
  | map k v=>simp only [Tp.mt] at H;cases H
 | .full j,a,m,m',H,o=>by
  cases a<;>simp only [Tp.mt] at H<;>try (cases H;done)
  case full id=>exact o.ref H
  case nilsl=>
   split at H
   ·refine MOk.ref (m:={ m with nid:=m.nid+1,add:=(m.nid,.arr _ [])::m.add }) ⟨o.inj,o.has,fun x hx=>?_,o.frz,Nat.le_succ_of_le o.nid⟩ H
    cases hx with
    | head=>exact ⟨⟨_,rfl⟩,o.nid,Nat.lt_succ_self _⟩
    | tail _ hx=>obtain ⟨a,b,c⟩:=o.add x hx;exact ⟨a,b,Nat.lt_succ_of_lt c⟩
   ·cases H
 | .ptr j o',a,m,m',H,o=>by
  cases a<;>simp only [Tp.mt] at H<;>try (cases H;done)
  rename_i id o''
  cases hb:Nat.beq o' o'' with
  | false=>rw [hb] at H;simp at H
  | true=>rw [hb] at H;exact o.ref H
 | .map j,a,m,m',H,o=>by
  cases a<;>simp only [Tp.mt] at H<;>try (cases H;done)
  exact o.ref H
 | .nilp,a,m,m',H,o=>by
  cases a<;>simp only [Tp.mt] at H<;>try (cases H;done)
  cases H;exact o
 | .cint k n,a,m,m',H,o=>by
  cases a<;>simp only [Tp.mt] at H<;>try (cases H;done)
  split at H
  ·split at H
   ·cases H;exact o
   ·cases H
  ·cases H
 | .cstr s,a,m,m',H,o=>by
  cases a<;>simp only [Tp.mt] at H<;>try (cases H;done)
  split at H
  ·cases H;exact o
  ·cases H
 | .cbool s,a,m,m',H,o=>by
  cases a<;>simp only [Tp.mt] at H<;>try (cases H;done)
  split at H
  ·cases H;exact o
  ·cases H
 | .gptr g o',a,m,m',H,o=>by
  cases a<;>simp only [Tp.mt] at H<;>try (cases H;done)
  rename_i g' o''
  cases hb:(Nat.beq g g'&&Nat.beq o' o'') with
  | false=>rw [hb] at H;simp at H
  | true=>rw [hb] at H;simp only [cond_true,Option.some.injEq] at H;subst H;exact o
 | .fn f x y,a,m,m',H,o=>by
  cases a<;>simp only [Tp.mt] at H<;>try (cases H;done)
  rename_i f' x' y'
  cases hb:Nat.beq f f' with
  | false=>rw [hb] at H;simp at H
  | true=>
   rw [hb] at H;simp only [cond_true] at H
   split at H
   ·rename_i m1 hm1
    exact Zhq y y' m1 m' H (Zhq x x' m m1 hm1 o)
   ·cases H
 | .agg l,a,m,m',H,o=>by
  cases a<;>simp only [Tp.mt] at H<;>try (cases H;done)
  exact Zhq l _ m m' H o
 | .tup l,a,m,m',H,o=>by
  cases a<;>simp only [Tp.mt] at H<;>try (cases H;done)
  exact Zhq l _ m m' H o
theorem Zhq:∀(tps:List Tp) (as:List AV) (m m':M),Tp.mts h ots tps as m=some m'→MOk h nid0 m→MOk h nid0 m'
 | [],as,m,m',H,o=>by
  cases as<;>simp only [Tp.mts] at H<;>try (cases H;done)
  cases H;exact o
 | tp::tps,as,m,m',H,o=>by
  cases as<;>simp only [Tp.mts] at H<;>try (cases H;done)
  split at H
  ·rename_i m1 hm1
   exact Zhq tps _ m1 m' H (ZtG tp _ m m1 hm1 o)
  ·cases H
end
theorem ZoF (m:M) (x:Dat):m.Ext (m.data x):=⟨fun _ _ h=>h,⟨[],rfl⟩,fun _ h=>h⟩
theorem OT.mt_both:∀(t:OT) (j:Nat) (m m':M),OT.mt h ots (fun m=>Znq m.add h) t j m=some m'→m.Ext m'∧(MOk h nid0 m→MOk h nid0 m'):=by
 intro t j m m' H
 cases t with
 | dead=>simp only [OT.mt,Option.some.injEq] at H;subst H;exact ⟨.refl m,id⟩
 | box l=>
  simp only [OT.mt] at H
  split at H
  ·split at H
   ·exact ⟨Zem l _ m m' H,Zhq l _ m m' H⟩
   ·cases H
  ·cases H
 | arr t=>
  simp only [OT.mt] at H
  split at H
  ·split at H
   ·split at H
    ·cases H;exact ⟨ZoF m _,fun o=>o.data _⟩
    ·cases H
   ·cases H
  ·cases H
 | map k v=>
  simp only [OT.mt] at H
  split at H
  ·split at H
   ·split at H
    ·split at H
     ·cases H;exact ⟨ZoF m _,fun o=>o.data _⟩
     ·cases H
    ·cases H
   ·cases H
  ·cases H
theorem OT.mts_both:∀(l:List OT) (j:Nat) (m m':M),OT.mts h ots l j m=some m'→m.Ext m'∧(MOk h nid0 m→MOk h nid0 m')
 | [],j,m,m',H=>by simp only [OT.mts,Option.some.injEq] at H;subst H;exact ⟨.refl m,id⟩
 | t::l,j,m,m',H=>by
  simp only [OT.mts] at H
  split at H
  ·rename_i m1 hm1
   obtain ⟨a,b⟩:=OT.mt_both t j m m1 hm1
   obtain ⟨c,d⟩:=OT.mts_both l (j+1) m1 m' H
   exact ⟨a.trans c,fun o=>d (b o)⟩
  ·cases H
theorem ZiT {fr:List AV}:∀(l:List (Nat×Tp)) (m m':M),Ztk h ots fr l m=some m'→m.Ext m'∧(MOk h nid0 m→MOk h nid0 m')
 | [],m,m',H=>by simp only [Ztk,Option.some.injEq] at H;subst H;exact ⟨.refl m,id⟩
 | (i,t)::l,m,m',H=>by
  simp only [Ztk] at H
  split at H
  ·rename_i m1 hm1
   obtain ⟨c,d⟩:=ZiT l m1 m' H
   exact ⟨(ZqQ t _ m m1 hm1).trans c,fun o=>d (ZtG t _ m m1 hm1 o)⟩
  ·cases H
theorem ZfX {nid0:Nat}:∀(d:Zbf) (id:Nat),(∀x,x∈d→(∃t,x.2=.arr t [])∧nid0≤x.1)→(Znq d h id=h id∧id∉ZaI d)∨(id∈ZaI d∧∃t,Znq d h id=.arr t [])
 | [],id,_=>.inl ⟨rfl,by simp [ZaI]⟩
 | (j,o)::d,id,hx=>by
  simp only [Znq,ZaI]
  cases hb:Nat.beq j id with
  | true=>
   have:=Nat.eq_of_beq_eq_true hb
   obtain ⟨⟨t,e⟩,_⟩:=hx (j,o) (by simp)
   exact .inr ⟨by simp [this],t,by simpa using e⟩
  | false=>
   have hne:id≠j:=fun e=>by subst e;simp at hb
   rcases ZfX d id (fun x h=>hx x (by simp [h])) with ⟨a,b⟩ | ⟨a,b⟩
   ·exact .inl ⟨by simpa using a,by simp [hne,b]⟩
   ·exact .inr ⟨by simp [a],by simpa using b⟩
end
def Zls (ι:Nat→Option Value) (add:Zbf) (k:Nat):Option Value:=if k∈ZaI add then some (.slice none 0 0) else ι k
def Zjv (ι:Nat→Option Value) (m:M) (j:Nat):Option Value:=(Zdm m.ren j).bind (Zls ι m.add)
def Zos (ι:Nat→Option Value) (N:Nat→Prop) (m:M) (b:Nat):Prop:=N b∨∃i u,i∈m.frz∧ι i=some u∧Zbi u=some b
section
variable {E:Env} {ι:Nat→Option Value} {N:Nat→Prop} {h:Nat→Ob} {w:World} {mf:M} {ots:Nat→OT} {nid0:Nat}
theorem ZeI {d:Zbf} {k:Nat}:k∈ZaI d↔∃o,(k,o)∈d:=by rw [Ze3];simp
theorem img (R:ZbF E ι N h w) (o:MOk h nid0 mf) (fresh:∀k,k∈ZaI mf.add→ι k=none):Img E ι N h w mf (Zls ι mf.add) (Zjv ι mf) (Zos ι N mf):=by
 refine ⟨R,fun j i e=>by simp [Zjv,e],fun i v e=>?_,fun x hx=>?_,fun b hb=>.inl hb,fun i v b hi e hb=>.inr ⟨i,v,hi,e,hb⟩⟩
 ·unfold Zls
  split
  ·rename_i hk;rw [fresh i hk] at e;cases e
  ·exact e
 ·unfold Zls
  rw [if_pos (ZeI.2 ⟨x.2,hx⟩)]
theorem Zkb:∀{r:List (Nat×Nat)} {l:List Nat},Zld r l=true→∀i,i∈l→Zfc r i=false
 | r,[],_,i,hi=>by simp at hi
 | r,a::l,h,i,hi=>by
  simp only [Zld,Bool.and_eq_true,Bool.not_eq_true'] at h
  cases hi with
  | head=>exact h.1
  | tail _ hi=>exact Zkb h.2 i hi
theorem ZgC:∀{r:List (Nat×Nat)} {n q:Nat},Zsm r n q=true→∀j i,Zdm r j=some i→j<n∧i<q
 | [],n,q,_,j,i,e=>by simp [Zdm] at e
 | (k,i')::r,n,q,h,j,i,e=>by
  simp only [Zsm,Bool.and_eq_true,Nat.blt_eq] at h
  simp only [Zdm] at e
  cases hb:Nat.beq k j with
  | true=>have:=Nat.eq_of_beq_eq_true hb;subst this;rw [hb] at e;simp at e;subst e;exact h.1
  | false=>rw [hb] at e;exact ZgC h.2 j i e
theorem Znz (R:ZbF E ι N h w) (o:MOk h nid0 mf) (hz:Zld mf.ren mf.frz=true) {j i:Nat} (hj:Zdm mf.ren j=some i) (hd:h i≠.dead) {u:Value} (hu:ι i=some u)
  {b:Nat} (hb:Zbi u=some b) (ow:own N E.keep b):own (Zos ι N mf) E.keep b:=by
 refine ⟨?_,ow.2⟩
 rintro (hn | ⟨k,x,hk,hx,hbx⟩)
 ·exact ow.1 hn
 ·obtain ⟨t,xs,hkx⟩:=o.frz k hk
  have hne:i≠k:=by
   rintro rfl
   have h1:=o.has j i hj
   rw [Zkb hz i hk] at h1;cases h1
  exact R.sep i k b hne hd (by rw [hkx];simp) (by rw [hu];exact hb) (by rw [hx];exact hbx)
theorem ZaZ.list {Q:AV→Value→Prop} {c:Array Value} {p:Nat} {cs:List AV} (hc:ZaZ Q c p cs):∃vs:List Value,vs.length=cs.length∧(∀f,f<cs.length→c[p+f]? = vs[f]?)∧
  ∀(f:Nat) (a:AV) (v:Value),cs[f]? = some a→vs[f]? = some v→Q a v:=by
 refine ⟨(List.range cs.length).map fun f=>c[p+f]?.getD default,by simp,fun f hf=>?_,fun f a v ha hv=>?_⟩
 ·obtain ⟨v,hv,_⟩:=hc f cs[f] (List.getElem?_eq_getElem hf)
  simp [hf,hv]
 ·obtain ⟨u,hu,hq⟩:=hc f a ha
  have hf:f<cs.length:=(List.getElem?_eq_some_iff.1 ha).1
  simp [hf,hu] at hv
  subst hv;exact hq
theorem Zss (R:ZbF E ι N h w) (o:MOk h nid0 mf) (fresh:∀k,k∈ZaI mf.add→ι k=none) (hz:Zld mf.ren mf.frz=true) :
  ∀(t:OT) (j:Nat) (m m':M),OT.mt h ots (fun m=>Znq m.add h) t j m=some m'→m'.Ext mf→MOk h nid0 m→
   ∃new x,m'.ds=new.reverse++m.ds∧(∀rest,OT.inst (fun j=>j) t (new++rest)=(x,rest))∧
    (x≠.dead→∃i u,Zdm mf.ren j=some i∧Zls ι mf.add i=some u∧ObR (Zjv ι mf) (Zos ι N mf) E.keep w u x∧(u=.slice none 0 0∨(h i≠.dead∧ι i=some u))):=by
 intro t j m m' H X om
 have I:=img R o fresh
 have madd:∀x,x∈m.add→(∃t,x.2=.arr t [])∧nid0≤x.1:=fun x hx=>⟨(om.add x hx).1,(om.add x hx).2.1⟩
 cases t with
 | dead=>simp only [OT.mt,Option.some.injEq] at H;subst H;exact ⟨[],.dead,rfl,fun _=>rfl,fun h=>absurd rfl h⟩
 | box l=>
  simp only [OT.mt] at H
  split at H
  ·rename_i id hid
   split at H
   ·rename_i cs hcs
    have hbox:h id=.box cs:=by
     rcases ZfX (h:=h) m.add id madd with ⟨e,_⟩ | ⟨_,t,e⟩
     ·rw [←e];exact hcs
     ·rw [e] at hcs;cases hcs
    have hd:h id≠.dead:=by rw [hbox];simp
    obtain ⟨u,hu,ho⟩:=R.ob id hd
    rw [hbox] at ho
    obtain ⟨b,p,c,T,rfl,h1,h2,h3⟩:=ho
    obtain ⟨vs,hl,hvs,hq⟩:=ZaZ.list h3
    obtain ⟨_,new,avs,d1,i1,r1⟩:=Zdy I l cs m m' vs H X (.of_get hl.symm fun f a v ha hv=>(hq f a v ha hv).1)
    have hren:Zdm mf.ren j=some id:=X.ren j id ((Zem l cs m m' H).ren j id hid)
    refine ⟨new,.box avs,d1,fun rest=>by simp only [OT.inst,i1],fun _=>⟨id,_,hren,I.old id _ hu,⟨b,p,c,T,rfl,Znz R o hz hren hd hu rfl h1,h2,fun f a ha=>?_⟩,.inr ⟨hd,hu⟩⟩⟩
    obtain ⟨v,hv,hva⟩:=r1.get f a ha
    have hf:f<cs.length:=by rw [←hl];exact (List.getElem?_eq_some_iff.1 hv).1
    refine ⟨v,(hvs f hf).trans hv,hva,?_⟩
    exact (hq f cs[f] v (List.getElem?_eq_getElem hf) hv).2
   ·cases H
  ·cases H
 | arr t=>
  simp only [OT.mt] at H
  split at H
  ·rename_i id hid
   split at H
   ·rename_i t' xs hx
    split at H
    ·rename_i e;subst e
     cases H
     have hren:Zdm mf.ren j=some id:=X.ren j id hid
     refine ⟨[⟨.list t',xs⟩],.arr t' xs,rfl,fun _=>rfl,fun _=>?_⟩
     rcases ZfX (h:=h) m.add id madd with ⟨e,_⟩ | ⟨hk,t,e⟩
     ·have hh:h id=.arr t' xs:=e.symm.trans hx
      have hd:h id≠.dead:=by rw [hh];simp
      obtain ⟨u,hu,ho⟩:=R.ob id hd
      rw [hh] at ho
      obtain ⟨a,cap,rfl,hle,ho⟩:=ho
      refine ⟨id,_,hren,I.old id _ hu,⟨a,cap,rfl,hle,?_⟩,.inr ⟨hd,hu⟩⟩
      rcases ho with rfl | ⟨b,c,T,rfl,h1,h2,h3,h4⟩
      ·exact .inl rfl
      ·by_cases hc:cap=0
       ·exact .inl hc
       ·exact .inr ⟨b,c,T,rfl,Znz R o hz hren hd hu (by simp [Zbi,hc]) h1,h2,h3,fun j x hx=>(h4 j x hx).mono fun _ _=>VRc.mono (fun b hb=>.inl hb) fun _ _=>rfl⟩
     ·have hx0:(Ob.arr t' xs)=.arr t []:=hx.symm.trans e
      simp only [Ob.arr.injEq] at hx0
      obtain ⟨rfl,hx0⟩:=hx0
      have hx0:=eq_of_heq hx0;subst hx0
      obtain ⟨ob,hob⟩:=ZeI.1 hk
      obtain ⟨l,el⟩:=X.add
      refine ⟨id,_,hren,I.add (id,ob) (by rw [el];exact List.mem_append_right l hob),⟨none,0,rfl,Nat.le_refl _,.inl rfl⟩,.inl rfl⟩
    ·cases H
   ·cases H
  ·cases H
 | map k v=>
  simp only [OT.mt] at H
  split at H
  ·rename_i id hid
   split at H
   ·rename_i k' v' es hx
    split at H
    ·rename_i e;subst e
     split at H
     ·rename_i e;subst e
      cases H
      have hren:Zdm mf.ren j=some id:=X.ren j id hid
      have hh:h id=.map k' v' es:=by
       rcases ZfX (h:=h) m.add id madd with ⟨e,_⟩ | ⟨_,t,e⟩
       ·rw [←e];exact hx
       ·rw [e] at hx;cases hx
      have hd:h id≠.dead:=by rw [hh];simp
      obtain ⟨u,hu,ho⟩:=R.ob id hd
      rw [hh] at ho
      obtain ⟨r,ents,clock,rfl,h1,h2,h3,h4⟩:=ho
      exact ⟨[⟨.map k' v',es⟩],.map k' v' es,rfl,fun _=>rfl,fun _=>⟨id,_,hren,I.old id _ hu,⟨r,ents,clock,rfl,Znz R o hz hren hd hu rfl h1,h2,h3,h4⟩,.inr ⟨hd,hu⟩⟩⟩
     ·cases H
    ·cases H
   ·cases H
  ·cases H
theorem Zis (R:ZbF E ι N h w) (o:MOk h nid0 mf) (fresh:∀k,k∈ZaI mf.add→ι k=none) (hz:Zld mf.ren mf.frz=true) :
  ∀(l:List OT) (j:Nat) (m m':M),OT.mts h ots l j m=some m'→m'.Ext mf→MOk h nid0 m→
   ∃new,m'.ds=new.reverse++m.ds∧∀rest,(OT.insts (fun j=>j) l (new++rest)).length=l.length∧∀k,Zb0 (OT.insts (fun j=>j) l (new++rest)) k≠.dead→
    ∃i u,Zdm mf.ren (j+k)=some i∧Zls ι mf.add i=some u∧ObR (Zjv ι mf) (Zos ι N mf) E.keep w u (Zb0 (OT.insts (fun j=>j) l (new++rest)) k)∧(u=.slice none 0 0∨(h i≠.dead∧ι i=some u))
 | [],j,m,m',H,X,om=>by
  simp only [OT.mts,Option.some.injEq] at H;subst H
  exact ⟨[],rfl,fun rest=>⟨rfl,fun k hk=>by simp [OT.insts,Zb0] at hk⟩⟩
 | t::l,j,m,m',H,X,om=>by
  simp only [OT.mts] at H
  split at H
  ·rename_i m1 hm1
   have b1:=OT.mt_both (nid0:=nid0) t j m m1 hm1
   have b2:=OT.mts_both (nid0:=nid0) l (j+1) m1 m' H
   obtain ⟨n1,x,d1,i1,r1⟩:=Zss R o fresh hz t j m m1 hm1 (b2.1.trans X) om
   obtain ⟨n2,d2,r2⟩:=Zis R o fresh hz l (j+1) m1 m' H X (b1.2 om)
   refine ⟨n1++n2,by rw [d2,d1];simp,fun rest=>?_⟩
   have e:OT.insts (fun j=>j) (t::l) (n1++n2++rest)=x::OT.insts (fun j=>j) l (n2++rest):=by
    simp only [OT.insts,List.append_assoc,i1]
   rw [e]
   refine ⟨by simp [(r2 rest).1],fun k hk=>?_⟩
   cases k with
   | zero=>exact r1 hk
   | succ k=>
    obtain ⟨i,u,q⟩:=(r2 rest).2 k hk
    rw [show j+(k+1)=j+1+k by omega]
    exact ⟨i,u,q⟩
  ·cases H
theorem Den.of_list:∀{ds:List DT} {l:List Dat} {d:Den ds},Den.of ds l=some d→Den.list ds d=l
 | [],[],d,h=>rfl
 | [],_::_,d,h=>by simp [Den.of] at h
 | [a],[],d,h=>by simp [Den.of] at h
 | [a],[x],d,h=>by
  simp only [Den.of,Dat.as] at h
  split at h
  ·rename_i e
   obtain ⟨xd,xv⟩:=x
   dsimp only at e;subst e
   cases h;rfl
  ·cases h
 | [a],_::_::_,d,h=>by simp [Den.of] at h
 | a::b::r,[],d,h=>by simp [Den.of] at h
 | a::b::r,x::l,d,h=>by
  simp only [Den.of,Dat.as] at h
  split at h
  ·rename_i p q h1 h2
   cases h
   have ih:=Den.of_list (ds:=b::r) h2
   simp only [Den.list,ih]
   congr 1
   split at h1
   ·rename_i e
    obtain ⟨xd,xv⟩:=x
    dsimp only at e;subst e
    cases h1;rfl
   ·cases h1
  ·cases h
theorem Zrn (R:ZbF E ι N h w) (o:MOk h nid0 mf) (fresh:∀k,k∈ZaI mf.add→ι k=none) (hz:Zld mf.ren mf.frz=true) {H:Zgm}
  (hob:∀k,Zb0 H k≠.dead→∃i u,Zdm mf.ren k=some i∧Zls ι mf.add i=some u∧ObR (Zjv ι mf) (Zos ι N mf) E.keep w u (Zb0 H k)∧(u=.slice none 0 0∨(h i≠.dead∧ι i=some u))) :
  ZbF E (Zjv ι mf) (Zos ι N mf) (Zb0 H) w:=by
 have hi:∀{j i},Zdm mf.ren j=some i→Zjv ι mf j=Zls ι mf.add i:=fun {j i} e=>by simp [Zjv,e]
 refine ⟨fun k hk=>?_,fun j k b e hj hk hb hc=>?_,fun b hb=>?_,R.klt,R.pres,fun g hg=>?_⟩
 ·obtain ⟨i,u,e1,e2,e3,_⟩:=hob k hk
  exact ⟨u,(hi e1).trans e2,e3⟩
 ·obtain ⟨i,u,e1,e2,e3,e4⟩:=hob j hj
  obtain ⟨i',u',f1,f2,f3,f4⟩:=hob k hk
  rw [hi e1,e2] at hb
  rw [hi f1,f2] at hc
  change Zbi u=some b at hb
  change Zbi u'=some b at hc
  rcases e4 with rfl | ⟨e5,e6⟩
  ·simp [Zbi] at hb
  ·rcases f4 with rfl | ⟨f5,f6⟩
   ·simp [Zbi] at hc
   ·have hne:i≠i':=by rintro rfl;exact e (o.inj j k i e1 f1)
    exact R.sep i i' b hne e5 f5 (by rw [e6];exact hb) (by rw [f6];exact hc)
 ·rcases hb with hb | ⟨i,u,h1,h2,h3⟩
  ·exact R.nlt b hb
  ·obtain ⟨t,xs,hx⟩:=o.frz i h1
   exact (R.blk_lt (by rw [hx];simp) h2 h3).2
 ·obtain ⟨n,c,T,fz,hc,hx⟩:=R.glob g hg
  exact ⟨.inl n,c,T,fz,hc,hx.mono fun a v ⟨x,y⟩=>⟨VRc.mono (fun b hb=>.inl hb) (fun _ _=>rfl) x,y⟩⟩
end
end Ev
end
section
namespace Ev
open Go
structure ZjI (E:Env) (k:Nat) (ι:Nat→Option Value) (N:Nat→Prop) (w:World) (ι':Nat→Option Value) (N':Nat→Prop) (w':World):Prop where
 loc:∀i,i<k→ι' i=ι i
 ro:∀b,N b→N' b
 mem:∀b,N b→w'.heap[b]? = w.heap[b]?
 bound:∀b,N' b→N b∨¬E.keep b
theorem ZjI.refl (E k ι N w):ZjI E k ι N w ι N w:=⟨fun _ _=>rfl,fun _ h=>h,fun _ _=>rfl,fun _ h=>.inl h⟩
theorem ZjI.trans {E k ι N w ι' N' w' ι'' N'' w''} (a:ZjI E k ι N w ι' N' w') (b:ZjI E k ι' N' w' ι'' N'' w''):ZjI E k ι N w ι'' N'' w'':=
 ⟨fun i h=>(b.loc i h).trans (a.loc i h),fun x h=>b.ro x (a.ro x h),fun x h=>(b.mem x (a.ro x h)).trans (a.mem x h),fun x h=>(b.bound x h).elim (a.bound x) .inr⟩
def Zak (P:Program) (C:Ctx) (f:Nat) (S:Zbb):Prop:=
 S.wf=true∧∀(d:Den S.ids) (r:Den S.out.ds),S.F d=some r→∀(E:Env),E.P=P→E.C=C→∀(ι:Nat→Option Value) (N:Nat→Prop) (w:World) (vs:Array Value) (args:List AV) (l:List Dat),
  Tp.insts (fun j=>j) S.args (Den.list S.ids d)=(args,l)→VRL ι N w args vs.toList→ZbF E ι N (Zb0 (OT.insts (fun j=>j) S.ihp l)) w→
  (∀i,S.ihp.length≤i→ι i=none)→
  OpR P (callFunc f vs) w fun val w'=>∃ι' N' v l',S.out.res.inst (fun j=>j) (Den.list S.out.ds r)=(v,l')∧VR ι' N' w' v val∧
   ZbF E ι' N' (Zb0 (OT.insts (fun j=>j) S.out.hp l')) w'∧(∀i,S.out.hp.length≤i→ι' i=none)∧ZjI E S.keep ι N w ι' N' w'
section
variable {ι2 ι3:Nat→Option Value} {N2 N3:Nat→Prop} {w:World} {ρ:Nat→Nat} {ro:Bool}
mutual
theorem Zoo (hι:∀j u,ι2 j=some u→ι3 (ρ j)=some u) (hN:ro=true→∀b,N2 b→N3 b):∀(t:Tp) (ds ds':List DT) (l:List Dat),(hasRo t=true→ro=true)→Tp.fit t ds=some ds'→l.map (·.d)=ds→
  (t.inst (fun j=>j) l).2=(t.inst ρ l).2∧(t.inst ρ l).2.map (·.d)=ds'∧∀v,VR ι2 N2 w (t.inst (fun j=>j) l).1 v→VR ι3 N3 w (t.inst ρ l).1 v
 | .undef,ds,ds',l,hr,hf,hl=>by simp only [Tp.fit,Option.some.injEq] at hf;subst hf;simp only [Tp.inst];exact ⟨trivial,hl,fun v _=>by simp only [VR]⟩
 | .sc d,ds,ds',l,hr,hf,hl=>by
  cases ds with
  | nil=>simp [Tp.fit] at hf
  | cons d' r=>
   simp only [Tp.fit] at hf
   split at hf
   ·rename_i e;subst e;cases hf
    cases l with
    | nil=>simp at hl
    | cons x l=>
     simp only [List.map_cons,List.cons.injEq] at hl
     simp only [Tp.inst]
     refine ⟨trivial,hl.2,fun v hv=>?_⟩
     obtain ⟨xd,xv⟩:=x
     dsimp only at hl
     obtain ⟨rfl,_⟩:=hl
     cases xd with
     | list t=>
      have hro:=hr rfl
      simp only [Dat.av,VR] at hv ⊢
      exact hv.mono (fun _ _=>VRc.mono (hN hro) fun _ _=>rfl) (hN hro) fun _ _=>rfl
     | _=>simp only [Dat.av,VR] at hv ⊢<;>exact hv
   ·cases hf
 | .full j,ds,ds',l,hr,hf,hl=>by
  simp only [Tp.fit,Option.some.injEq] at hf;subst hf;simp only [Tp.inst]
  exact ⟨trivial,hl,fun v hv=>by simp only [VR] at hv ⊢;exact ⟨hι j v hv.1,hv.2⟩⟩
 | .ptr j o,ds,ds',l,hr,hf,hl=>by
  simp only [Tp.fit,Option.some.injEq] at hf;subst hf;simp only [Tp.inst]
  exact ⟨trivial,hl,fun v hv=>by simp only [VR] at hv ⊢;obtain ⟨b,p,h1,h2⟩:=hv;exact ⟨b,p,hι j _ h1,h2⟩⟩
 | .map j,ds,ds',l,hr,hf,hl=>by
  simp only [Tp.fit,Option.some.injEq] at hf;subst hf;simp only [Tp.inst]
  exact ⟨trivial,hl,fun v hv=>by simp only [VR] at hv ⊢;exact ⟨hι j v hv.1,hv.2⟩⟩
 | .nilp,ds,ds',l,hr,hf,hl=>by
  simp only [Tp.fit,Option.some.injEq] at hf;subst hf;simp only [Tp.inst]
  exact ⟨trivial,hl,fun v hv=>by simp only [VR] at hv ⊢;exact hv⟩
 | .cint k n,ds,ds',l,hr,hf,hl=>by
  simp only [Tp.fit,Option.some.injEq] at hf;subst hf;simp only [Tp.inst]
  exact ⟨trivial,hl,fun v hv=>by simp only [VR] at hv ⊢;exact hv⟩
 | .cstr s,ds,ds',l,hr,hf,hl=>by
  simp only [Tp.fit,Option.some.injEq] at hf;subst hf;simp only [Tp.inst]
  exact ⟨trivial,hl,fun v hv=>by simp only [VR] at hv ⊢;exact hv⟩
 | .cbool s,ds,ds',l,hr,hf,hl=>by
  simp only [Tp.fit,Option.some.injEq] at hf;subst hf;simp only [Tp.inst]
  exact ⟨trivial,hl,fun v hv=>by simp only [VR] at hv ⊢;exact hv⟩
 | .gptr g o,ds,ds',l,hr,hf,hl=>by
  simp only [Tp.fit,Option.some.injEq] at hf;subst hf;simp only [Tp.inst]
  exact ⟨trivial,hl,fun v hv=>by simp only [VR] at hv ⊢;exact hv⟩
 | .fn f a b,ds,ds',l,hr,hf,hl=>by
  simp only [Tp.fit] at hf
  split at hf
  ·rename_i ds1 h1
   obtain ⟨a1,a2,a3⟩:=Zea hι hN a ds ds1 l (fun h=>hr (by simp [hasRo,h])) h1 hl
   obtain ⟨b1,b2,b3⟩:=Zea hι hN b ds1 ds' _ (fun h=>hr (by simp [hasRo,h])) hf a2
   simp only [Tp.inst]
   rw [a1]
   refine ⟨b1,b2,fun v hv=>?_⟩
   simp only [VR] at hv ⊢
   obtain ⟨fs,cs,h1,h2,h3⟩:=hv
   exact ⟨fs,cs,h1,a3 _ h2,b3 _ h3⟩
  ·cases hf
 | .agg a,ds,ds',l,hr,hf,hl=>by
  simp only [Tp.fit] at hf
  obtain ⟨a1,a2,a3⟩:=Zea hι hN a ds ds' l (fun h=>hr (by simp [hasRo,h])) hf hl
  simp only [Tp.inst]
  refine ⟨a1,a2,fun v hv=>?_⟩
  simp only [VR] at hv ⊢
  obtain ⟨vs,h1,h2,h3⟩:=hv
  exact ⟨vs,h1,a3 _ h2,h3⟩
 | .tup a,ds,ds',l,hr,hf,hl=>by
  simp only [Tp.fit] at hf
  obtain ⟨a1,a2,a3⟩:=Zea hι hN a ds ds' l (fun h=>hr (by simp [hasRo,h])) hf hl
  simp only [Tp.inst]
  refine ⟨a1,a2,fun v hv=>?_⟩
  simp only [VR] at hv ⊢
  obtain ⟨vs,h1,h2⟩:=hv
  exact ⟨vs,h1,a3 _ h2⟩
theorem Zea (hι:∀j u,ι2 j=some u→ι3 (ρ j)=some u) (hN:ro=true→∀b,N2 b→N3 b):∀(ts:List Tp) (ds ds':List DT) (l:List Dat),(Zgb ts=true→ro=true)→Tp.fits ts ds=some ds'→l.map (·.d)=ds→
  (Tp.insts (fun j=>j) ts l).2=(Tp.insts ρ ts l).2∧(Tp.insts ρ ts l).2.map (·.d)=ds'∧∀vs,VRL ι2 N2 w (Tp.insts (fun j=>j) ts l).1 vs→VRL ι3 N3 w (Tp.insts ρ ts l).1 vs
 | [],ds,ds',l,hr,hf,hl=>by simp only [Tp.fits,Option.some.injEq] at hf;subst hf;simp only [Tp.insts];exact ⟨trivial,hl,fun vs h=>by cases vs<;>simp [VRL] at h ⊢⟩
 | t::ts,ds,ds',l,hr,hf,hl=>by
  simp only [Tp.fits] at hf
  split at hf
  ·rename_i ds1 h1
   obtain ⟨a1,a2,a3⟩:=Zoo hι hN t ds ds1 l (fun h=>hr (by simp [Zgb,h])) h1 hl
   obtain ⟨b1,b2,b3⟩:=Zea hι hN ts ds1 ds' _ (fun h=>hr (by simp [Zgb,h])) hf a2
   simp only [Tp.insts]
   rw [a1]
   refine ⟨b1,b2,fun vs hv=>?_⟩
   cases vs with
   | nil=>simp [VRL] at hv
   | cons v vs=>simp only [VRL] at hv ⊢;exact ⟨a3 v hv.1,b3 vs hv.2⟩
  ·cases hf
end
theorem Zs8 {N2 N3:Nat→Prop} {w:World}:∀{s:Sc} {x:s.T} {v:Value},(∀k,s=.ints k→∀b,N2 b→N3 b)→VRc N2 w (s.av x) v→VRc N3 w (s.av x) v
 | .int k,x,v,_,h=>h
 | .bool,x,v,_,h=>h
 | .str,x,v,_,h=>h
 | .ints k,x,v,hN,h=>by
  simp only [Sc.av,VRc] at h ⊢
  exact h.mono (fun _ _ h=>h) (hN k rfl) fun _ _=>rfl
theorem ZmK {N2 N3:Nat→Prop} {w:World}:∀{t:FT} {x:El t},(ftRo t=true→∀b,N2 b→N3 b)→∀a,a∈El.cells t x→∀v,VRc N2 w a v→VRc N3 w a v
 | [],x,_,a,ha,v,h=>by simp [El.cells] at ha
 | [s],x,hN,a,ha,v,h=>by
  simp only [El.cells,List.mem_singleton] at ha;subst ha
  exact Zs8 (fun k e=>hN (by subst e;rfl)) h
 | s::s'::r,x,hN,a,ha,v,h=>by
  simp only [El.cells,List.mem_cons] at ha
  rcases ha with ha | ha
  ·subst ha;exact Zs8 (fun k e=>hN (by subst e;rfl)) h
  ·exact ZmK (t:=s'::r) (fun e=>hN (by cases s<;>simp [ftRo,e])) a ha v h
theorem ZaZ.on {P Q:AV→Value→Prop} {c p as} (h:ZaZ P c p as) (hpq:∀a,a∈as→∀v,P a v→Q a v):ZaZ Q c p as:=
 fun f a ha=>let ⟨v,h1,h2⟩:=h f a ha;⟨v,h1,hpq a (List.mem_of_getElem? ha) _ h2⟩
theorem ot_ren (hι:∀j u,ι2 j=some u→ι3 (ρ j)=some u) (hN:ro=true→∀b,N2 b→N3 b):∀(t:OT) (ds ds':List DT) (l:List Dat),(OT.hasRo t=true→ro=true)→OT.fit t ds=some ds'→l.map (·.d)=ds→
  (OT.inst (fun j=>j) t l).2=(OT.inst ρ t l).2∧(OT.inst ρ t l).2.map (·.d)=ds'∧
  ((OT.inst (fun j=>j) t l).1=.dead→(OT.inst ρ t l).1=.dead)∧
  ∀keep2 keep3:Nat→Prop,(∀b,own N2 keep2 b→own N3 keep3 b)→∀u,ObR ι2 N2 keep2 w u (OT.inst (fun j=>j) t l).1→ObR ι3 N3 keep3 w u (OT.inst ρ t l).1
 | .dead,ds,ds',l,hr,hf,hl=>by
  simp only [OT.fit,Option.some.injEq] at hf;subst hf;simp only [OT.inst]
  exact ⟨trivial,hl,fun _=>trivial,fun _ _ _ _ h=>h⟩
 | .box a,ds,ds',l,hr,hf,hl=>by
  simp only [OT.fit] at hf
  obtain ⟨a1,a2,a3⟩:=Zea (w:=w) hι hN a ds ds' l (fun h=>hr (by simp [OT.hasRo,h])) hf hl
  simp only [OT.inst]
  refine ⟨a1,a2,fun h=>(by cases h),fun k2 k3 ho u h=>?_⟩
  obtain ⟨b,p,c,T,rfl,h1,h2,h3⟩:=h
  obtain ⟨vs,hlen,hvs,hq⟩:=ZaZ.list h3
  have r:=a3 vs (.of_get hlen.symm fun f a v ha hv=>(hq f a v ha hv).1)
  refine ⟨b,p,c,T,rfl,ho b h1,h2,fun f x ha=>?_⟩
  obtain ⟨v,hv,hva⟩:=r.get f x ha
  have hf':f<(Tp.insts (fun j=>j) a l).1.length:=by rw [←hlen];exact (List.getElem?_eq_some_iff.1 hv).1
  exact ⟨v,(hvs f hf').trans hv,hva,(hq f _ v (List.getElem?_eq_getElem hf') hv).2⟩
 | .arr t,ds,ds',l,hr,hf,hl=>by
  cases ds with
  | nil=>simp [OT.fit] at hf
  | cons d r=>
   simp only [OT.fit] at hf
   split at hf
   ·rename_i e;subst e;cases hf
    cases l with
    | nil=>simp at hl
    | cons x l=>
     simp only [List.map_cons,List.cons.injEq] at hl
     obtain ⟨xd,xs⟩:=x
     dsimp only at hl
     obtain ⟨rfl,hl⟩:=hl
     simp only [OT.inst]
     refine ⟨trivial,hl,fun h=>(by cases h),fun k2 k3 ho u h=>?_⟩
     obtain ⟨a,cap,rfl,hle,h⟩:=h
     refine ⟨a,cap,rfl,hle,?_⟩
     rcases h with rfl | ⟨b,c,T,rfl,h1,h2,h3,h4⟩
     ·exact .inl rfl
     ·exact .inr ⟨b,c,T,rfl,ho b h1,h2,h3,fun j x hx=>(h4 j x hx).on fun a ha v hv=>ZmK (fun e=>hN (hr e)) a ha v hv⟩
   ·cases hf
 | .map k v,ds,ds',l,hr,hf,hl=>by
  cases ds with
  | nil=>simp [OT.fit] at hf
  | cons d r=>
   simp only [OT.fit] at hf
   split at hf
   ·rename_i e;subst e;cases hf
    cases l with
    | nil=>simp at hl
    | cons x l=>
     simp only [List.map_cons,List.cons.injEq] at hl
     obtain ⟨xd,xs⟩:=x
     dsimp only at hl
     obtain ⟨rfl,hl⟩:=hl
     simp only [OT.inst]
     refine ⟨trivial,hl,fun h=>(by cases h),fun k2 k3 ho u h=>?_⟩
     obtain ⟨r,ents,clock,rfl,h1,h2,h3,h4⟩:=h
     exact ⟨r,ents,clock,rfl,ho r h1,h2,h3,h4⟩
   ·cases hf
theorem ZgG (ρ:Nat→Nat):∀(ts:List OT) (l:List Dat),(OT.insts ρ ts l).length=ts.length
 | [],l=>rfl
 | t::ts,l=>by simp [OT.insts,ZgG ρ ts]
theorem ZqF (hι:∀j u,ι2 j=some u→ι3 (ρ j)=some u) (hN:ro=true→∀b,N2 b→N3 b):∀(ts:List OT) (ds ds':List DT) (l:List Dat),(anyL OT.hasRo ts=true→ro=true)→OT.fits ts ds=some ds'→l.map (·.d)=ds→
  ∀k,(Zb0 (OT.insts (fun j=>j) ts l) k=.dead→Zb0 (OT.insts ρ ts l) k=.dead)∧
  ∀keep2 keep3:Nat→Prop,(∀b,own N2 keep2 b→own N3 keep3 b)→∀u,ObR ι2 N2 keep2 w u (Zb0 (OT.insts (fun j=>j) ts l) k)→ObR ι3 N3 keep3 w u (Zb0 (OT.insts ρ ts l) k)
 | [],ds,ds',l,hr,hf,hl,k=>by simp only [OT.insts];exact ⟨fun h=>h,fun _ _ _ u h=>by cases k<;>exact h⟩
 | t::ts,ds,ds',l,hr,hf,hl,k=>by
  simp only [OT.fits] at hf
  split at hf
  ·rename_i ds1 h1
   obtain ⟨a1,a2,a3,a4⟩:=ot_ren (w:=w) hι hN t ds ds1 l (fun h=>hr (by simp [anyL,h])) h1 hl
   have ih:=ZqF hι hN ts ds1 ds' _ (fun h=>hr (by simp [anyL,h])) hf a2
   simp only [OT.insts]
   rw [a1]
   cases k with
   | zero=>exact ⟨a3,a4⟩
   | succ k=>exact ih k
  ·cases hf
end
section
variable {h g:Nat→Ob}
theorem ZhK:∀(d e:Zbf) (h:Nat→Ob),Zc4 h (d++e)=Zc4 (Zc4 h d) e
 | [],e,h=>rfl
 | (i,o)::d,e,h=>by simp only [List.cons_append,Zc4];exact ZhK d e _
theorem ZiN (m:M):∀(n j k:Nat) (g:Nat→Ob),Zc4 g (m.gone j n) k=.dead∨(Zc4 g (m.gone j n) k=g k∧∀j',j≤j'→j'<j+n→Zdm m.ren j'≠some k)
 | 0,j,k,g=>.inr ⟨rfl,fun j' h1 h2=>by omega⟩
 | n+1,j,k,g=>by
  simp only [M.gone]
  split
  ·rename_i i hi
   simp only [Zc4]
   rcases ZiN m n (j+1) k (upd g i .dead) with e | ⟨e,hn⟩
   ·exact .inl e
   ·by_cases ek:k=i
    ·left;rw [e];simp [upd,ek]
    ·refine .inr ⟨by rw [e];simp [upd,ek],fun j' h1 h2=>?_⟩
     by_cases ej:j'=j
     ·subst ej;rw [hi];simp;exact fun x=>ek x.symm
     ·exact hn j' (by omega) (by omega)
  ·rename_i hi
   rcases ZiN m n (j+1) k g with e | ⟨e,hn⟩
   ·exact .inl e
   ·refine .inr ⟨e,fun j' h1 h2=>?_⟩
    by_cases ej:j'=j
    ·subst ej;rw [hi];simp
    ·exact hn j' (by omega) (by omega)
theorem ZiG:∀(l:List Nat) (k:Nat) (g:Nat→Ob),(k∈l→Zc4 g (Znv l) k=.dead)∧(k∉l→Zc4 g (Znv l) k=g k)
 | [],k,g=>⟨fun h=>by simp at h,fun _=>rfl⟩
 | i::l,k,g=>by
  simp only [Znv,Zc4]
  have ih:=ZiG l k (upd g i .dead)
  refine ⟨fun hk=>?_,fun hk=>?_⟩
  ·by_cases hl:k∈l
   ·exact ih.1 hl
   ·simp only [List.mem_cons,hl,or_false] at hk
    rw [ih.2 hl];simp [upd,hk]
  ·simp only [List.mem_cons,not_or] at hk
   rw [ih.2 hk.2];simp [upd,hk.1]
theorem ZlY (act:Nat→Nat):∀(out:Zgm) (j0 k:Nat) (g:Nat→Ob),
  (∃j,j<out.length∧act (j0+j)=k∧Zc4 g (Zr7 act j0 out) k=Zb0 out j)∨((∀j,j<out.length→act (j0+j)≠k)∧Zc4 g (Zr7 act j0 out) k=g k)
 | [],j0,k,g=>.inr ⟨fun j h=>by simp at h,rfl⟩
 | o::out,j0,k,g=>by
  simp only [Zr7,Zc4]
  rcases ZlY act out (j0+1) k (upd g (act j0) o) with ⟨j,h1,h2,h3⟩ | ⟨h1,h2⟩
  ·exact .inl ⟨j+1,by simp;exact h1,by rw [←h2];congr 1;omega,h3⟩
  ·by_cases ek:k=act j0
   ·exact .inl ⟨0,by simp,ek.symm,by rw [h2];simp [upd,ek,Zb0]⟩
   ·refine .inr ⟨fun j hj=>?_,by rw [h2];simp [upd,ek]⟩
    cases j with
    | zero=>exact fun e=>ek e.symm
    | succ j=>have:=h1 j (by simpa using hj);rwa [show j0+(j+1)=j0+1+j by omega]
theorem ZlZ (act:Nat→Nat):∀(out:Zgm) (j0 k:Nat),k∈ZaI (Zr7 act j0 out)↔∃j,j<out.length∧act (j0+j)=k
 | [],j0,k=>by simp [Zr7,ZaI]
 | o::out,j0,k=>by
  simp only [Zr7,ZaI,List.mem_cons,ZlZ act out]
  constructor
  ·rintro (rfl | ⟨j,h1,h2⟩)
   ·exact ⟨0,by simp,rfl⟩
   ·exact ⟨j+1,by simpa using h1,by rw [←h2];congr 1;omega⟩
  ·rintro ⟨j,h1,h2⟩
   cases j with
   | zero=>exact .inl h2.symm
   | succ j=>exact .inr ⟨j,by simpa using h1,by rw [←h2];congr 1;omega⟩
theorem Zdj (d e:Zbf):ZaI (d++e)=ZaI d++ZaI e:=by simp [Ze3]
theorem ZnX:∀(d:Zbf) (k:Nat) (g:Nat→Ob),(∀x,x∈d→∃t,x.2=.arr t [])→k∈ZaI d→∃t,Zc4 g d k=.arr t []
 | [],k,g,_,hk=>by simp [ZaI] at hk
 | (i,o)::d,k,g,hx,hk=>by
  simp only [Zc4]
  by_cases hm:k∈ZaI d
  ·exact ZnX d k _ (fun x h=>hx x (by simp [h])) hm
  ·rw [ZcT d hm]
   simp only [ZaI,List.mem_cons,hm,or_false] at hk
   obtain ⟨t,e⟩:=hx (i,o) (by simp)
   exact ⟨t,by simp [upd,hk];exact e⟩
end
section
variable {E:Env} {ι:Nat→Option Value} {N:Nat→Prop} {h:Nat→Ob} {w:World} {nid:Nat}
theorem ObR.other {N keep keep':Nat→Prop} {val:Value} {o:Ob} (ho:ObR ι N keep w val o) (hk:∀b,Zbi val=some b→own N keep b→own N keep' b):ObR ι N keep' w val o:=by
 cases o with
 | dead=>trivial
 | box cs=>
  obtain ⟨b,o,c,T,rfl,h1,h2,h3⟩:=ho
  exact ⟨b,o,c,T,rfl,hk b rfl h1,h2,h3⟩
 | arr t xs=>
  obtain ⟨a,cap,rfl,hle,ho⟩:=ho
  refine ⟨a,cap,rfl,hle,?_⟩
  rcases ho with rfl | ⟨b,c,T,rfl,h1,h2,h3,h4⟩
  ·exact .inl rfl
  ·by_cases hc:cap=0
   ·exact .inl hc
   ·exact .inr ⟨b,c,T,rfl,hk b (by simp [Zbi,hc]) h1,h2,h3,h4⟩
 | map kt vt es=>
  obtain ⟨r,ents,clock,rfl,h1,h2,h3,h4⟩:=ho
  exact ⟨r,ents,clock,rfl,hk r rfl h1,h2,h3,h4⟩
theorem ZrC {S:Zbb} {args:List AV} {d:Den S.ids} {m:M} (H:S.enter args h nid=some (d,m)):MOk h nid m:=by
 unfold Zbb.enter at H
 have o0:MOk h nid ⟨[],[],nid,[],[]⟩:=⟨fun j j' i e=>by simp [Zdm] at e,fun j i e=>by simp [Zdm] at e,fun x hx=>by simp at hx,fun i hi=>by simp at hi,Nat.le_refl _⟩
 split at H
 ·rename_i m1 hm1
  have o1:=Zhq _ _ _ _ hm1 o0
  split at H
  ·rename_i m2 hm2
   have o2:=(OT.mts_both (nid0:=nid) _ _ _ _ hm2).2 o1
   cases hok:m2.ok (Zax S.ihp) with
   | false=>rw [hok] at H;simp at H
   | true=>
    rw [hok] at H;simp only [cond_true] at H
    split at H
    ·simp only [Option.some.injEq,Prod.mk.injEq] at H
     obtain ⟨_,rfl⟩:=H
     exact o2
    ·cases H
  ·cases H
 ·cases H
theorem Den.list_types:∀(ds:List DT) (d:Den ds),(Den.list ds d).map (·.d)=ds
 | [],d=>rfl
 | [a],d=>rfl
 | a::b::r,d=>by simp only [Den.list,List.map_cons];rw [Den.list_types (b::r)]
theorem ZnJ (R:ZbF E ι N h w) {S:Zbb} {args:List AV} {vs:List Value} (hv:VRL ι N w args vs) {d:Den S.ids} {m:M} (H:S.enter args h nid=some (d,m))
  (fresh:∀k,k∈ZaI m.add→ι k=none) :
  MOk h nid m∧Zld m.ren m.frz=true∧(∀j i,Zdm m.ren j=some i→j<S.ihp.length∧i<m.nid)∧
  ∃as l,Tp.insts (fun j=>j) S.args (Den.list S.ids d)=(as,l)∧VRL (Zjv ι m) (Zos ι N m) w as vs∧
   (∀k,Zb0 (OT.insts (fun j=>j) S.ihp l) k≠.dead→∃i u,Zdm m.ren k=some i∧Zls ι m.add i=some u∧ObR (Zjv ι m) (Zos ι N m) E.keep w u (Zb0 (OT.insts (fun j=>j) S.ihp l) k)∧(u=.slice none 0 0∨(h i≠.dead∧ι i=some u))):=by
 unfold Zbb.enter at H
 have o0:MOk h nid ⟨[],[],nid,[],[]⟩:=⟨fun j j' i e=>by simp [Zdm] at e,fun j i e=>by simp [Zdm] at e,fun x hx=>by simp at hx,fun i hi=>by simp at hi,Nat.le_refl _⟩
 split at H
 ·rename_i m1 hm1
  have o1:=Zhq _ _ _ _ hm1 o0
  split at H
  ·rename_i m2 hm2
   have o2:=(OT.mts_both (nid0:=nid) _ _ _ _ hm2).2 o1
   have x2:=(OT.mts_both (nid0:=nid) _ _ _ _ hm2).1
   cases hok:m2.ok (Zax S.ihp) with
   | false=>rw [hok] at H;simp at H
   | true=>
    rw [hok] at H;simp only [cond_true] at H
    unfold M.ok at hok
    simp only [Bool.and_eq_true] at hok
    split at H
    ·rename_i d' hd
     simp only [Option.some.injEq,Prod.mk.injEq] at H
     obtain ⟨rfl,rfl⟩:=H
     have I:=img R o2 fresh
     obtain ⟨_,n1,as,d1,i1,r1⟩:=Zdy I _ _ _ _ vs hm1 x2 hv
     obtain ⟨n2,d2,r2⟩:=Zis R o2 fresh hok.1 _ _ _ _ hm2 (.refl _) o1
     have hds:Den.list S.ids d'=n1++n2:=by
      rw [Den.of_list hd,ZgA,d2,d1];simp
     refine ⟨o2,hok.1,fun j i e=>by have:=ZgC hok.2 j i e;rwa [ZaX] at this,as,n2,by rw [hds];exact i1 n2,r1,fun k hk=>?_⟩
     have:=(r2 []).2 k (by simpa using hk)
     simpa using this
    ·cases H
  ·cases H
 ·cases H
open Classical in
theorem ZpU (R:ZbF E ι N h w) {f:Nat} {S:Zbb} (hS:Zak E.P E.C f S) {args:List AV} {vs:Array Value} (hv:VRL ι N w args vs.toList) {d:Den S.ids} {m:M}
  (H:S.enter args h nid=some (d,m)) {r:Den S.out.ds} (hF:S.F d=some r) (fresh:∀k,k∈ZaI (S.leave m r).2→nid≤k→ι k=none) :
  OpR E.P (callFunc f vs) w fun val w'=>∃ι' N',Zsc E ι N h w nid (S.leave m r).1 (S.leave m r).2 val w' ι' N':=by
 obtain ⟨hwf,hS⟩:=hS
 have om:=ZrC H
 have hd:(S.leave m r).2=Zp2 m.add []++(m.gone 0 (Zax S.ihp)++(Zr7 (m.actual S.keep) 0 (OT.insts (m.actual S.keep) S.out.hp (S.out.res.inst (m.actual S.keep) (Den.list S.out.ds r)).2)++
   cond S.out.hasRo (Znv m.frz) [])):=by simp only [Zbb.leave,ZcL]
 have hv1:(S.leave m r).1=(S.out.res.inst (m.actual S.keep) (Den.list S.out.ds r)).1:=rfl
 generalize (S.leave m r).1=v at *
 generalize (S.leave m r).2=dl at *
 have keyAdd:∀k,k∈ZaI (Zp2 m.add [])↔k∈ZaI m.add:=fun k=>by rw [ZgA,Ze3,Ze3];simp
 have addDl:∀k,k∈ZaI m.add→k∈ZaI dl:=fun k hk=>by rw [hd,Zdj];exact List.mem_append_left _ ((keyAdd k).2 hk)
 have addRng:∀k,k∈ZaI m.add→nid≤k∧k<m.nid:=fun k hk=>by
  obtain ⟨o,ho⟩:=ZeI.1 hk
  exact (om.add _ ho).2
 have freshAdd:∀k,k∈ZaI m.add→ι k=none:=fun k hk=>fresh k (addDl k hk) (addRng k hk).1
 obtain ⟨-,hz,hrng,as,l,hinsts,hva,hob⟩:=ZnJ R hv H freshAdd
 let H0:Nat→Ob:=fun i=>if (∃j,Zdm m.ren j=some i)∨i∈m.frz then h i else .dead
 have hH0:∀i,H0 i=h i∨H0 i=.dead:=fun i=>by
  by_cases c:(∃j,Zdm m.ren j=some i)∨i∈m.frz
  ·exact .inl (if_pos c)
  ·exact .inr (if_neg c)
 have Rc:=Zrn R om freshAdd hz hob
 have Rp:=R.part hH0
 have R1:ZbF (E.part ι h H0 w) (Zjv ι m) (Zos ι N m) (Zb0 (OT.insts (fun j=>j) S.ihp l)) w:=by
  refine ⟨fun k hk=>?_,Rc.sep,Rc.nlt,Rp.klt,Rp.pres,Rc.glob⟩
  obtain ⟨i,u,e1,e2,e3,e4⟩:=hob k hk
  refine ⟨u,by simp [Zjv,e1,e2],e3.other fun b hb ow=>⟨ow.1,?_⟩⟩
  rintro (hk | ⟨i',v',h1,h2,h3,h4⟩)
  ·exact ow.2 hk
  ·rcases e4 with rfl | ⟨e5,e6⟩
   ·simp [Zbi] at hb
   ·have hne:i≠i':=by
     rintro rfl
     have:H0 i=h i:=if_pos (.inl ⟨k,e1⟩)
     rw [this] at h2;exact h1 h2
    exact R.sep i i' b hne e5 h1 (by rw [e6];exact hb) (by rw [h3];exact h4)
 have new1:∀i,S.ihp.length≤i→Zjv ι m i=none:=fun i hi=>by
  cases e:Zdm m.ren i with
  | none=>simp [Zjv,e]
  | some q=>exact absurd (hrng i q e).1 (by omega)
 refine OpR.mono (hS d r hF (E.part ι h H0 w) rfl rfl (Zjv ι m) (Zos ι N m) w vs as l hinsts hva R1 new1) fun val w' hp=>?_
 obtain ⟨ι2,N2,v2,l2,hinst,hvr,R2,new2,G⟩:=hp
 simp only [Zbb.wf,Bool.and_eq_true] at hwf
 obtain ⟨hkeep,hfit⟩:=hwf
 have hkeep:S.keep≤S.ihp.length:=by have:=Nat.le_of_ble_eq_true hkeep;rwa [ZaX] at this
 obtain ⟨ds1,hf1,ds2,hf2⟩:∃ds1,Tp.fit S.out.res S.out.ds=some ds1∧∃ds2,OT.fits S.out.hp ds1=some ds2:=by
  revert hfit
  cases e1:Tp.fit S.out.res S.out.ds with
  | none=>simp
  | some ds1=>
   intro hfit
   exact ⟨ds1,rfl,Option.isSome_iff_exists.1 hfit⟩
 let ι3:Nat→Option Value:=fun k=>if k<nid then ι k else if k<m.nid then Zls ι m.add k else if k-m.nid+S.keep<S.out.hp.length then ι2 (k-m.nid+S.keep) else ι k
 let N3:Nat→Prop:=fun b=>N2 b∧(S.out.hasRo=true∨¬∃i u,i∈m.frz∧ι i=some u∧Zbi u=some b)
 have live2:∀j u,ι2 j=some u→j<S.out.hp.length:=fun j u e=>by
  rcases Nat.lt_or_ge j S.out.hp.length with h | h
  ·exact h
  ·rw [new2 j h] at e;cases e
 have addLow:∀k,k<nid→Zls ι m.add k=ι k:=fun k hk=>by
  unfold Zls
  split
  ·rename_i hm;have:=(addRng k hm).1;omega
  ·rfl
 have hnid:=om.nid
 have hι:∀j u,ι2 j=some u→ι3 (m.actual S.keep j)=some u:=fun j u e=>by
  have hj:=live2 j u e
  by_cases hk:j<S.keep
  ·have e':=(G.loc j hk).symm.trans e
   unfold Zjv at e'
   cases hr:Zdm m.ren j with
   | none=>rw [hr] at e';cases e'
   | some i=>
    rw [hr] at e'
    change Zls ι m.add i=some u at e'
    have hact:m.actual S.keep j=i:=by
     unfold M.actual
     have:Nat.blt j S.keep=true:=by rw [Nat.blt_eq];exact hk
     rw [this,hr];rfl
    have hi:=(hrng j i hr).2
    rw [hact]
    by_cases hlow:i<nid
    ·simp only [ι3,hlow,if_true];rw [←addLow i hlow];exact e'
    ·simp only [ι3,hlow,hi,if_true,if_false];exact e'
  ·have hact:m.actual S.keep j=m.nid+(j-S.keep):=by
    unfold M.actual
    have:Nat.blt j S.keep=false:=by
     cases hb:Nat.blt j S.keep with
     | false=>rfl
     | true=>rw [Nat.blt_eq] at hb;exact absurd hb hk
    rw [this];rfl
   rw [hact]
   have a1:¬m.nid+(j-S.keep)<nid:=by omega
   have a2:¬m.nid+(j-S.keep)<m.nid:=by omega
   have a3:m.nid+(j-S.keep)-m.nid+S.keep=j:=by omega
   simp only [ι3,a1,a2,if_false,a3,hj,if_true];exact e
 have hN3:S.out.hasRo=true→∀b,N2 b→N3 b:=fun hr b hb=>⟨hb,.inl hr⟩
 obtain ⟨i1,i2,i3⟩:=Zoo (w:=w') hι hN3 S.out.res _ _ _ (fun e=>by simp [Out.hasRo,e]) hf1 (Den.list_types S.out.ds r)
 rw [hinst] at i1 i3
 change l2=_ at i1
 rw [←i1] at hd i2
 have ren:=ZqF (w:=w') hι hN3 S.out.hp ds1 ds2 l2 (fun e=>by simp [Out.hasRo,e]) hf2 i2
 have inRange:∀k,m.nid≤k→k-m.nid+S.keep<S.out.hp.length→k∈ZaI dl:=fun k h1 h2=>by
  rw [hd,Zdj,Zdj,Zdj]
  refine List.mem_append_right _ (List.mem_append_right _ (List.mem_append_left _ ((ZlZ _ _ _ _).2 ⟨k-m.nid+S.keep,by rw [ZgG];exact h2,?_⟩)))
  unfold M.actual
  have:Nat.blt (0+(k-m.nid+S.keep)) S.keep=false:=by
   cases hb:Nat.blt (0+(k-m.nid+S.keep)) S.keep with
   | false=>rfl
   | true=>rw [Nat.blt_eq] at hb;omega
  rw [this];simp only [cond_false];omega
 have loc3:∀k u,ι k=some u→ι3 k=some u:=fun k u e=>by
  by_cases h1:k<nid
  ·simp only [ι3,h1,if_true];exact e
  ·by_cases h2:k<m.nid
   ·simp only [ι3,h1,h2,if_true,if_false]
    unfold Zls
    split
    ·rename_i hm;rw [freshAdd k hm] at e;cases e
    ·exact e
   ·by_cases h3:k-m.nid+S.keep<S.out.hp.length
    ·have:=fresh k (inRange k (by omega) h3) (by omega)
     rw [this] at e;cases e
    ·simp only [ι3,h1,h2,h3,if_false];exact e
 have frzOwn:∀i u b,i∈m.frz→ι i=some u→Zbi u=some b→own N E.keep b:=fun i u b hi hu hb=>by
  obtain ⟨t,xs,hx⟩:=om.frz i hi
  exact (R.blk_lt (by rw [hx];simp) hu hb).1
 have L:Zb1 ι N w ι3 N3 w':=⟨loc3,fun b hb=>⟨G.ro b (.inl hb),.inr fun ⟨i,u,h1,h2,h3⟩=>(frzOwn i u b h1 h2 h3).1 hb⟩,fun b hb=>G.mem b (.inl hb)⟩
 have cls:∀k,Zc4 h dl k≠.dead→(∃j,m.actual S.keep j=k∧Zc4 h dl k=Zb0 (OT.insts (m.actual S.keep) S.out.hp l2) j∧Zb0 (OT.insts (fun j=>j) S.out.hp l2) j≠.dead)∨
   (∃t,Zc4 h dl k=.arr t []∧ι3 k=some (.slice none 0 0))∨
   (Zc4 h dl k=h k∧h k≠.dead∧(¬∃j,Zdm m.ren j=some k)∧(k∈m.frz→S.out.hasRo=false)):=by
  intro k hk
  rw [hd,ZhK,ZhK,ZhK] at hk ⊢
  generalize hA:Zc4 h (Zp2 m.add [])=gA at hk ⊢
  generalize hB:Zc4 gA (m.gone 0 (Zax S.ihp))=gB at hk ⊢
  generalize hC:Zc4 gB (Zr7 (m.actual S.keep) 0 (OT.insts (m.actual S.keep) S.out.hp l2))=gC at hk ⊢
  have hD:Zc4 gC (cond S.out.hasRo (Znv m.frz) []) k=gC k∧(k∈m.frz→S.out.hasRo=false):=by
   cases hr:S.out.hasRo with
   | false=>exact ⟨rfl,fun _=>rfl⟩
   | true=>
    rw [hr] at hk
    simp only [cond_true] at hk ⊢
    by_cases hm:k∈m.frz
    ·exact absurd ((ZiG m.frz k gC).1 hm) hk
    ·exact ⟨(ZiG m.frz k gC).2 hm,fun x=>absurd x hm⟩
  rw [hD.1] at hk ⊢
  rcases ZlY (m.actual S.keep) (OT.insts (m.actual S.keep) S.out.hp l2) 0 k gB with ⟨j,h1,h2,h3⟩ | ⟨h1,h2⟩
  ·rw [hC] at h3
   rw [Nat.zero_add] at h2
   exact .inl ⟨j,h2,h3,fun e=>hk (h3.trans ((ren j).1 e))⟩
  ·rw [hC] at h2
   rw [h2] at hk ⊢
   rcases ZiN m (Zax S.ihp) 0 k gA with e | ⟨e,hn⟩
   ·rw [hB] at e;exact absurd e hk
   ·rw [hB] at e
    rw [e] at hk ⊢
    by_cases hm:k∈ZaI m.add
    ·obtain ⟨t,ht⟩:=ZnX (Zp2 m.add []) k h (fun x hx=>(om.add x (by rw [ZgA] at hx;simpa using hx)).1) ((keyAdd k).2 hm)
     rw [hA] at ht
     refine .inr (.inl ⟨t,ht,?_⟩)
     have hr:=addRng k hm
     have a1:¬k<nid:=by omega
     simp only [ι3,a1,hr.2,if_true,if_false,Zls,hm]
    ·have:gA k=h k:=by rw [←hA];exact ZcT _ fun x=>hm ((keyAdd k).1 x)
     rw [this] at hk ⊢
     refine .inr (.inr ⟨rfl,hk,?_,hD.2⟩)
     rintro ⟨j,hj⟩
     exact hn j (Nat.zero_le _) (by rw [ZaX];have:=(hrng j k hj).1;omega) hj
 have rest:∀k u b,h k≠.dead→(¬∃j,Zdm m.ren j=some k)→ι k=some u→Zbi u=some b→(k∈m.frz∧Zos ι N m b)∨(k∉m.frz∧ZnO E ι h H0 b):=fun k u b h1 h2 h3 h4=>by
  by_cases hm:k∈m.frz
  ·exact .inl ⟨hm,.inr ⟨k,u,hm,h3,h4⟩⟩
  ·refine .inr ⟨hm,.inr ⟨k,u,h1,if_neg (fun c=>c.elim h2 hm),h3,h4⟩⟩
 have ownOut:∀b,own N2 (ZnO E ι h H0) b→own N3 E.keep b:=fun b ow=>⟨fun x=>ow.1 x.1,fun x=>ow.2 (.inl x)⟩
 have notBoth:∀k u b,h k≠.dead→(¬∃j,Zdm m.ren j=some k)→ι k=some u→Zbi u=some b→¬own N2 (ZnO E ι h H0) b:=fun k u b h1 h2 h3 h4 ow=>by
  rcases rest k u b h1 h2 h3 h4 with ⟨_,x⟩ | ⟨_,x⟩
  ·exact ow.1 (G.ro b x)
  ·exact ow.2 x
 refine ⟨ι3,N3,by rw [hv1];exact i3 val hvr,L,⟨fun k hk=>?_,fun k k' b e hk hk' hb hc=>?_,fun b hb=>R2.nlt b hb.1,fun b hb=>R2.klt b (.inl hb),?_,fun g hg=>?_⟩,fun k=>?_,fun b hb=>?_⟩
 ·rcases cls k hk with ⟨j,h1,h2,h3⟩ | ⟨t,h1,h2⟩ | ⟨h1,h2,h3,h4⟩
  ·obtain ⟨u,hu,ho⟩:=R2.ob j h3
   refine ⟨u,by rw [←h1];exact hι j u hu,?_⟩
   rw [h2]
   exact (ren j).2 _ _ ownOut u ho
  ·refine ⟨_,h2,?_⟩
   rw [h1]
   exact ⟨none,0,rfl,Nat.le_refl _,.inl rfl⟩
  ·obtain ⟨u,hu,ho⟩:=R.ob k h2
   refine ⟨u,loc3 k u hu,?_⟩
   rw [h1]
   refine ho.keep L (fun b hb ow=>⟨fun x=>?_,ow.2⟩) fun b hb=>?_
   ·rcases rest k u b h2 h3 hu hb with ⟨hm,_⟩ | ⟨hm,ha⟩
    ·rcases x.2 with y | y
     ·rw [h4 hm] at y;cases y
     ·exact y ⟨k,u,hm,hu,hb⟩
    ·rcases G.bound b x.1 with y | y
     ·rcases y with y | ⟨i,z,q1,q2,q3⟩
      ·exact ow.1 y
      ·have hne:k≠i:=fun e=>hm (e ▸ q1)
       obtain ⟨t,xs,hx⟩:=om.frz i q1
       exact R.sep k i b hne h2 (by rw [hx];simp) (by rw [hu];exact hb) (by rw [q2];exact q3)
     ·exact y ha
   ·rcases rest k u b h2 h3 hu hb with ⟨_,x⟩ | ⟨_,x⟩
    ·exact G.mem b x
    ·exact R2.pres.mem b x
 ·have blkA:∀j k u,Zb0 (OT.insts (fun j=>j) S.out.hp l2) j≠.dead→m.actual S.keep j=k→ι3 k=some u→ι2 j=some u:=fun j k u h1 h2 h3=>by
   obtain ⟨u',hu',_⟩:=R2.ob j h1
   have:=hι j u' hu'
   rw [h2,h3] at this
   cases this;exact hu'
  cases e3:ι3 k with
  | none=>rw [e3] at hb;cases hb
  | some u=>
   rw [e3] at hb
   change Zbi u=some b at hb
   cases e3':ι3 k' with
   | none=>rw [e3'] at hc;cases hc
   | some u'=>
    rw [e3'] at hc
    change Zbi u'=some b at hc
    rcases cls k hk with ⟨j,h1,h2,h3⟩ | ⟨t,h1,h2⟩ | ⟨h1,h2,h3,h4⟩
    ·have q:=blkA j k u h3 h1 e3
     have ow:own N2 (ZnO E ι h H0) b:=(R2.blk_lt h3 q hb).1
     rcases cls k' hk' with ⟨j',h1',h2',h3'⟩ | ⟨t',h1',h2'⟩ | ⟨h1',h2',h3',h4'⟩
     ·have q':=blkA j' k' u' h3' h1' e3'
      have hne:j≠j':=fun x=>e (by rw [←h1,←h1',x])
      exact R2.sep j j' b hne h3 h3' (by rw [q];exact hb) (by rw [q'];exact hc)
     ·rw [e3'] at h2';cases h2';simp [Zbi] at hc
     ·obtain ⟨z,hz',_⟩:=R.ob k' h2'
      have:=loc3 k' z hz'
      rw [e3'] at this;cases this
      exact notBoth k' u' b h2' h3' hz' hc ow
    ·rw [e3] at h2;cases h2;simp [Zbi] at hb
    ·obtain ⟨z,hz',_⟩:=R.ob k h2
     have:=loc3 k z hz'
     rw [e3] at this;cases this
     rcases cls k' hk' with ⟨j',h1',h2',h3'⟩ | ⟨t',h1',h2'⟩ | ⟨h1',h2',h3',h4'⟩
     ·have q':=blkA j' k' u' h3' h1' e3'
      exact notBoth k u b h2 h3 hz' hb (R2.blk_lt h3' q' hc).1
     ·rw [e3'] at h2';cases h2';simp [Zbi] at hc
     ·obtain ⟨z',hz2,_⟩:=R.ob k' h2'
      have:=loc3 k' z' hz2
      rw [e3'] at this;cases this
      exact R.sep k k' b e h2 h2' (by rw [hz'];exact hb) (by rw [hz2];exact hc)
 ·have q:=R2.pres
  exact ⟨q.os.trans R.pres.os,q.tape.trans R.pres.tape,q.output.trans R.pres.output,Nat.le_trans R.pres.size q.size,fun b hb=>(q.mem b (.inl hb)).trans (R.pres.mem b hb)⟩
 ·obtain ⟨n,c,T,fz,hc,hx⟩:=R.glob g hg
  exact ⟨L.ro g n,c,T,fz,(L.mem g n).trans hc,hx.mono fun a v ⟨x,y⟩=>⟨VRc.mono L.ro L.mem x,y⟩⟩
 ·by_cases h1:k<nid
  ·left;simp only [ι3,h1,if_true]
  ·by_cases h2:k<m.nid
   ·by_cases hm:k∈ZaI m.add
    ·exact .inr ⟨by omega,addDl k hm⟩
    ·left;simp only [ι3,h1,h2,if_true,if_false,Zls,hm]
   ·by_cases h3:k-m.nid+S.keep<S.out.hp.length
    ·exact .inr ⟨by omega,inRange k (by omega) h3⟩
    ·left;simp only [ι3,h1,h2,h3,if_false]
 ·rcases G.bound b hb.1 with x | x
  ·rcases x with x | ⟨i,u,h1,h2,h3⟩
   ·exact .inl x
   ·exact .inr (frzOwn i u b h1 h2 h3).2
  ·exact .inr fun y=>x (.inl y)
structure ZhH (P:Program) (C:Ctx) (H:Hnd):Prop where
 nat:∀{ρ:Type} (f:Nat) (args:List AV) (h:Nat→Ob) (nid:Nat) (K:AV→Zbf→Option ρ),H.run f args h nid K=(H.run f args h nid pr).bind (on K)
 sound:∀(f:Nat) (args:List AV) (h:Nat→Ob) (nid:Nat) (v:AV) (d:Zbf),H.run f args h nid pr=some (v,d)→∀(E:Env),E.P=P→E.C=C→∀(ι:Nat→Option Value) (N:Nat→Prop) (w:World) (vs:Array Value),
  ZbF E ι N h w→VRL ι N w args vs.toList→(∀k,k∈ZaI d→nid≤k→ι k=none)→OpR P (callFunc f vs) w fun val w'=>∃ι' N',Zsc E ι N h w nid v d val w' ι' N'
theorem Zjg {ρ:Type} (args:List AV) (h:Nat→Ob) (nid:Nat) (K:AV→Zbf→Option ρ):∀(l:List Zbb),Zlk args h nid K l=(Zlk args h nid pr l).bind (on K)
 | []=>rfl
 | S::l=>by
  simp only [Zlk]
  split
  ·split
   ·cases S.F _<;>rfl
   ·rename_i S' l'
    cases S.F _ with
    | some r=>rfl
    | none=>exact Zjg args h nid K (S'::l')
  ·exact Zjg args h nid K l
theorem ZfI {P:Program} {C:Ctx} {f:Nat} {args:List AV} {v:AV} {d:Zbf}:∀(l:List Zbb),(∀S,S∈l→Zak P C f S)→Zlk args h nid pr l=some (v,d)→∀(E:Env),E.P=P→E.C=C→∀(ι:Nat→Option Value) (N:Nat→Prop) (w:World) (vs:Array Value),
  ZbF E ι N h w→VRL ι N w args vs.toList→(∀k,k∈ZaI d→nid≤k→ι k=none)→OpR P (callFunc f vs) w fun val w'=>∃ι' N',Zsc E ι N h w nid v d val w' ι' N'
 | [],_,H,_,_,_,_,_,_,_,_,_,_=>by simp [Zlk] at H
 | S::l,hS,H,E,e1,e2,ι,N,w,vs,R,hv,fr=>by
  simp only [Zlk] at H
  split at H
  ·rename_i dd m hen
   have fin:∀{r},S.F dd=some r→pr (S.leave m r).1 (S.leave m r).2=some (v,d)→OpR P (callFunc f vs) w fun val w'=>∃ι' N',Zsc E ι N h w nid v d val w' ι' N':=fun {r} hF H=>by
    simp only [pr,Option.some.injEq,Prod.mk.injEq] at H
    obtain ⟨rfl,rfl⟩:=H
    subst e1 e2
    exact ZpU R (hS S (by simp)) hv hen hF fr
   cases l with
   | nil=>
    dsimp only at H
    cases hF:S.F dd with
    | none=>rw [hF] at H;cases H
    | some r=>rw [hF] at H;exact fin hF H
   | cons S' l'=>
    dsimp only at H
    cases hF:S.F dd with
    | none=>rw [hF] at H;exact ZfI (S'::l') (fun S h=>hS S (by simp at h ⊢;exact .inr h)) H E e1 e2 ι N w vs R hv fr
    | some r=>rw [hF] at H;exact fin hF H
  ·exact ZfI l (fun S h=>hS S (by simp [h])) H E e1 e2 ι N w vs R hv fr
theorem hnd_ok {P:Program} {C:Ctx} {spec:Nat→List Zbb} (hS:∀f S,S∈spec f→Zak P C f S):ZhH P C (hnd spec):=
 ⟨fun f args h nid K=>Zjg args h nid K (spec f),fun f args h nid v d H=>ZfI (spec f) (hS f) H⟩
theorem OpR.of_calls {P:Program} {f:FuncId} {fn:Func} {vs:Array Value} {w:World} {R:Value→World→Prop} (hf:P.funcs[f]? = some fn) (hn:(fn.name == "runtime.NumGoroutine")=false) (hb:fn.body.isNone=false)
  (h:Calls P f vs w fun e w''=>∃val,e=.returned val∧R val w''):OpR P (callFunc f vs) w R:=by
 refine .inr (.inl ⟨f,vs,?_,h⟩)
 unfold callFunc
 simp only [Sem.run_bind,run_program,Result.andThen_ok,hf,hn,hb,Bool.false_eq_true,if_false,Sem.run_pure]
theorem ZqP {C:Ctx} {op:Op} {av:Operand→AV} {v:AV} {d:Zbf} (hn:ZsA op=true) (H:Zcy C op av h nid pr=some (v,d)):nid∈ZaI d:=by
 have key:∀{v' d'},pr v' d'=some (v,d)→nid∈ZaI d'→nid∈ZaI d:=fun e hm=>by
  simp only [pr,Option.some.injEq,Prod.mk.injEq] at e
  rw [←e.2];exact hm
 have kc:∀{b:Bool} {x:Option (AV×Zbf)},cond b x none=some (v,d)→x=some (v,d):=fun {b x} e=>by cases b<;>simp_all
 have kc':∀{b:Bool} {x:Option (AV×Zbf)},cond b none x=some (v,d)→x=some (v,d):=fun {b x} e=>by cases b<;>simp_all
 cases op<;>simp only [ZsA] at hn<;>try (cases hn;done)
 case alloc t=>
  simp only [Zcy] at H
  exact key (kc' H) (by simp [ZaI])
 case makeMap t x=>
  cases x with
  | some x=>simp [Zcy] at H
  | none=>
   simp only [Zcy] at H
   split at H
   ·split at H
    ·exact key (kc H) (by simp [ZaI])
    ·cases H
   ·cases H
 case box t x=>
  simp only [Zcy] at H
  split at H
  ·exact key H (by simp [ZaI])
  ·cases H
 case buildSlice t n ps=>
  simp only [Zcy] at H
  split at H
  ·split at H
   ·have H:=kc H
    split at H
    ·split at H
     ·exact key H (by rw [ZcL,Zdj];simp [ZaI])
     ·cases H
    ·cases H
   ·cases H
  ·cases H
 case makeSlice t l c=>
  simp only [Zcy] at H
  split at H
  ·split at H
   ·have H:=(ZaL (kc H)).2
    exact key H (by simp [ZaI])
   ·cases H
  ·cases H
 case call c=>
  obtain ⟨cal,args,tys⟩:=c
  cases cal<;>try (cases hn;done)
  rename_i b
  cases b<;>try (cases hn;done)
  simp only [Zcy] at H
  split at H
  all_goals first | contradiction | skip
  all_goals
   split at H
   ·split at H
    ·have H:=kc H
     unfold Zuc at H
     split at H
     ·split at H
      ·split at H
       ·split at H
        ·split at H
         ·exact key (ZaL H).2 (by simp [ZaI])
         ·cases H
        ·cases H
       ·exact key (ZaL H).2 (by simp [ZaI])
       ·cases H
      ·cases H
     ·cases H
    ·cases H
   ·cases H
theorem Zmy (T:Zey E.P E.C) {H:Hnd} (hH:ZhH E.P E.C H) (R:ZbF E ι N h w) {av:Operand→AV} {ev:Operand→Value} (hv:∀x,VR ι N w (av x) (ev x)) {o:Oper} {v:AV} {d:Zbf}
  (Ho:Zfm E.C H o av h nid pr=some (v,d)) (fresh:∀k,k∈ZaI d→nid≤k→ι k=none):OpR E.P (execOp ev o) w fun val w'=>∃ι' N',Zsc E ι N h w nid v d val w' ι' N':=by
 unfold Zfm at Ho
 split at Ho
 ·rename_i f args tys hop
  split at Ho
  ·rename_i f' first cap hf
   have hfv:=hv f
   rw [hf] at hfv
   simp only [VR] at hfv
   obtain ⟨fs,cs,hfv,h1,h2⟩:=hfv
   have hargs:VRL ι N w (args.toList.map av) (args.map ev).toList:=by
    rw [Array.toList_map]
    generalize args.toList=l
    induction l with
    | nil=>simp [VRL]
    | cons x l ih=>simp only [List.map_cons,VRL];exact ⟨hv x,ih⟩
   have:=hH.sound f' _ h nid v d Ho E rfl rfl ι N w (fs++args.map ev++cs) R (by
    simp only [ZcL,ZtL,Array.toList_append,List.append_assoc]
    exact h1.append (hargs.append h2)) fresh
   have hrun:∀w,(execOp ev o).run E.P w=(callFunc f' (fs++args.map ev++cs)).run E.P w:=fun w=>by
    simp [execOp,hop,resolve,hfv,Deferred.ofValue,invoke,Sem.run_bind,Sem.run_pure]
   unfold OpR at this ⊢
   rw [hrun w]
   exact this
  ·cases Ho
 ·have hn:ZsA o.op=true→ι nid=none:=fun e=>fresh nid (ZqP e Ho) (Nat.le_refl _)
  obtain ⟨v',d',e,r⟩:=ZpN (K:=pr) T R hv hn Ho
  simp only [pr,Option.some.injEq,Prod.mk.injEq] at e
  obtain ⟨rfl,rfl⟩:=e
  exact r.opR R fun hm=>fresh nid (by rw [Ze3];exact hm) (Nat.le_refl _)
end
end Ev
end
section
namespace Ev
open Go
theorem Zjo (e:Edge):ZeS e=Region.binds .any e:=by
 unfold ZeS Region.binds
 cases e.ground<;>rfl
theorem ZmR (acc:List Nat) (i:Nat):∀(es:List Edge) (s j:Nat),Nat.testBit (Zud acc i es s) j=true→
  Nat.testBit s j=true∨∃e,e∈es∧ZeS e=true∧e.on<i∧(e.on=j∨Nat.testBit (Zla acc e.on) j=true)
 | [],s,j,h=>.inl h
 | e::r,s,j,h=>by
  simp only [Zud] at h
  rcases ZmR acc i r _ j h with h | ⟨e',h1,h2⟩
  ·cases hb:(ZeS e&&Nat.blt e.on i) with
   | false=>rw [hb] at h;exact .inl h
   | true=>
    rw [hb] at h
    simp only [cond_true] at h
    simp only [Bool.and_eq_true,Nat.blt_eq] at hb
    have h:Nat.testBit (s ||| (2^e.on ||| Zla acc e.on)) j=true:=h
    rw [Nat.testBit_or,Nat.testBit_or,Nat.testBit_two_pow] at h
    simp only [Bool.or_eq_true,decide_eq_true_eq] at h
    rcases h with h | h | h
    ·exact .inl h
    ·exact .inr ⟨e,by simp,hb.1,hb.2,.inl h⟩
    ·exact .inr ⟨e,by simp,hb.1,hb.2,.inr h⟩
  ·exact .inr ⟨e',by simp [h1],h2⟩
theorem ZiP:∀(l:List Nat) (n:Nat),Zla l n=l.getD n 0
 | [],n=>by cases n<;>rfl
 | a::l,0=>rfl
 | a::l,n+1=>by simp [Zla,ZiP l n]
theorem ZnD (l m:List Nat) (n:Nat) (h:n<l.length):Zla (l++m) n=Zla l n:=by
 rw [ZiP,ZiP];simp [List.getD,List.getElem?_append_left h]
def ZnR (all:List Oper) (A:List Nat) (k:Nat):Prop:=
 ∀j,Nat.testBit (Zla A k) j=true→j<k∧∃o e,all[k]? = some o∧e∈o.after.toList∧ZeS e=true∧e.on<k∧(e.on=j∨Nat.testBit (Zla A e.on) j=true)
theorem ZmQ (all:List Oper):∀(ops:List Oper) (i:Nat) (acc:List Nat),acc.length=i→(∀j,ops[j]? = all[i+j]?)→(∀k,k<i→ZnR all acc k)→
  ∀k,ZnR all (Zsb ops i acc) k
 | [],i,acc,hl,ho,hg,k=>by
  simp only [Zsb]
  rcases Nat.lt_or_ge k i with h | h
  ·exact hg k h
  ·intro j hj
   rw [ZiP] at hj
   have:acc.getD k 0=0:=by simp [List.getD,List.getElem?_eq_none (by omega:acc.length≤k)]
   rw [this] at hj;simp at hj
 | o::r,i,acc,hl,ho,hg,k=>by
  simp only [Zsb,ZcL]
  have ext:∀n,n<i→Zla (acc++[Zud acc i o.after.toList 0]) n=Zla acc n:=fun n hn=>ZnD _ _ n (by omega)
  have last:Zla (acc++[Zud acc i o.after.toList 0]) i=Zud acc i o.after.toList 0:=by
   rw [ZiP];simp [List.getD,←hl]
  refine ZmQ all r (i+1) _ (by simp [hl]) (fun j=>by have:=ho (j+1);simp at this;rw [this];congr 1;omega) (fun k hk=>?_) k
  have ho0:all[i]? = some o:=by have:=ho 0;simpa using this.symm
  by_cases e:k=i
  ·subst e
   intro j hj
   rw [last] at hj
   rcases ZmR acc k _ _ j hj with h | ⟨e,h1,h2,h3,h4⟩
   ·simp at h
   ·have lt:j<k:=by
     rcases h4 with h4 | h4
     ·omega
     ·have:=(hg e.on h3 j h4).1;omega
    refine ⟨lt,o,e,ho0,h1,h2,h3,h4.imp id fun h=>?_⟩
    rw [ext _ h3];exact h
  ·have hk':k<i:=by omega
   intro j hj
   rw [ext k hk'] at hj
   obtain ⟨h1,o',e',h2,h3,h4,h5,h6⟩:=hg k hk' j hj
   exact ⟨h1,o',e',h2,h3,h4,h5,h6.imp id fun h=>by rw [ext _ (by omega)];exact h⟩
theorem Zs4 (all:List Oper) (k:Nat):ZnR all (Zsb all 0 []) k:=
 ZmQ all all 0 [] rfl (fun j=>by simp) (fun k hk=>by omega) k
theorem ZfJ {A:List Nat} {i j:Nat}:ZbZ A i j=true↔i≠j∧Nat.testBit (Zla A i) j=false∧Nat.testBit (Zla A j) i=false:=by
 unfold ZbZ
 simp only [Bool.and_eq_true,Bool.not_eq_true']
 rw [and_assoc]
 constructor
 ·rintro ⟨h1,h2,h3⟩
  refine ⟨fun e=>?_,h2,h3⟩
  subst e;simp at h1
 ·rintro ⟨h1,h2,h3⟩
  refine ⟨?_,h2,h3⟩
  cases hb:Nat.beq i j with
  | false=>rfl
  | true=>exact absurd (Nat.eq_of_beq_eq_true hb) h1
theorem ZhE {A:List Nat} {i j:Nat} (h:ZbZ A i j=true):ZbZ A j i=true:=by
 rw [ZfJ] at h ⊢
 exact ⟨h.1.symm,h.2.2,h.2.1⟩
theorem ZhW:∀(ops:List Oper) (n:Nat),ZcB ops n=(ops[n]?).bind (·.dst)
 | [],n=>by cases n<;>rfl
 | o::r,0=>rfl
 | o::r,n+1=>by simp [ZcB,ZhW r n]
structure Ent where
 v:AV
 d:Zbf
 run:Bool
section
variable (all:List Oper) (fr0:List AV) (h0:Zgm) (es:Nat→Ent)
def frD (D:Nat→Bool):Nat→List AV
 | 0=>fr0
 | m+1=>cond (D m) (Zhn (frD D m) (ZcB all m) (es m).v) (frD D m)
def hL:Nat→Zgm
 | 0=>h0
 | m+1=>apD (hL m) (es m).d
def hD (D:Nat→Bool):Nat→Nat→Ob
 | 0=>Zb0 h0
 | m+1=>cond (D m) (Zc4 (hD D m) (es m).d) (hD D m)
def ZdG:Nat→List ZmU
 | 0=>[]
 | m+1=>cond (es m).run (⟨m,ZaI (es m).d,Zax (hL h0 es m)⟩::ZdG m) (ZdG m)
end
def yes:Nat→Bool:=fun _=>true
def Zr2 (all:List Oper) (F:List AV) (o:Oper):Bool→Prop
 | true=>o.guard=none∨∃j want t,o.guard=some (j,want)∧ZcB all j=some t∧ZcA F t=.bool want
 | false=>∃j want t,o.guard=some (j,want)∧ZcB all j=some t∧(ZcA F t=.bool (!want)∨ZcA F t=.tup [])
structure Ztq (C:Ctx) (H:Hnd) (O:ZcS) (all:List Oper) (fr0:List AV) (h0:Zgm) (es:Nat→Ent) (i:Nat) (o:Oper):Prop where
 want:Zr2 all (O.fr all i (frD all fr0 es yes i)) o (es i).run
 ran:(es i).run=true→Zfm C H o (opnd (O.fr all i (frD all fr0 es yes i))) (O.hp i (ZdG h0 es i) (Zb0 (hL h0 es i))) (Zax (hL h0 es i)) pr=some ((es i).v,(es i).d)∧
  O.ok i (ZdG h0 es i) (es i).d=true
 not:(es i).run=false→(es i).v=.tup []∧(es i).d=[]
section
variable {all:List Oper} {fr0:List AV} {h0:Zgm} {es es':Nat→Ent} {C:Ctx} {H:Hnd} {O:ZcS}
theorem Zgd {D:Nat→Bool}:∀{m:Nat},(∀j,j<m→es j=es' j)→frD all fr0 es D m=frD all fr0 es' D m
 | 0,_=>rfl
 | m+1,h=>by simp only [frD];rw [Zgd fun j hj=>h j (by omega),h m (by omega)]
theorem Zgc:∀{m:Nat},(∀j,j<m→es j=es' j)→hL h0 es m=hL h0 es' m
 | 0,_=>rfl
 | m+1,h=>by simp only [hL];rw [Zgc fun j hj=>h j (by omega),h m (by omega)]
theorem ZgM:∀{m:Nat},(∀j,j<m→es j=es' j)→ZdG h0 es m=ZdG h0 es' m
 | 0,_=>rfl
 | m+1,h=>by simp only [ZdG];rw [ZgM fun j hj=>h j (by omega),Zgc fun j hj=>h j (by omega),h m (by omega)]
theorem ZlI (fr:List AV) (t:Nat) {v:AV} (h:ZcA fr t=v):ZlJ fr t v=fr:=by
 subst h
 rw [Zcz,Zcv]
 rcases Nat.lt_or_ge t fr.length with h | h
 ·simp [List.getD,List.getElem?_eq_getElem h]
 ·rw [List.set_eq_of_length_le h]
theorem Zfh (fr:List AV) (d t:Nat):ZcA (ZlJ fr d .undef) t=.undef∨(t≠d∧ZcA (ZlJ fr d .undef) t=ZcA fr t):=by
 rw [Zcz,Zcv,Zcv]
 by_cases e:t=d
 ·subst e
  left
  rcases Nat.lt_or_ge t fr.length with h | h
  ·simp [List.getD,h]
  ·simp [List.getD,h]
 ·right
  exact ⟨e,by simp [List.getD,List.getElem?_set_ne (Ne.symm e)]⟩
theorem Zks (A:List Nat) (i t:Nat):∀(ops:List Oper) (j:Nat) (fr:List AV),
  ZcA (Zjl A i ops j fr) t=.undef∨(ZcA (Zjl A i ops j fr) t=ZcA fr t∧∀k,ZcB ops k=some t→ZbZ A i (j+k)=false)
 | [],j,fr=>.inr ⟨rfl,fun k hk=>by cases k<;>simp [ZcB] at hk⟩
 | o::r,j,fr=>by
  simp only [Zjl]
  have step:∀fr',(ZcA fr' t=.undef∨(ZcA fr' t=ZcA fr t∧(o.dst=some t→ZbZ A i j=false)))→
    ZcA (Zjl A i r (j+1) fr') t=.undef∨(ZcA (Zjl A i r (j+1) fr') t=ZcA fr t∧∀k,ZcB (o::r) k=some t→ZbZ A i (j+k)=false):=fun fr' h=>by
   rcases Zks A i t r (j+1) fr' with h1 | ⟨h1,h2⟩
   ·exact .inl h1
   ·rcases h with h | ⟨h,h3⟩
    ·left;rw [h1,h]
    ·refine .inr ⟨h1.trans h,fun k hk=>?_⟩
     cases k with
     | zero=>exact h3 hk
     | succ k=>have:=h2 k hk;rwa [show j+1+k=j+(k+1) by omega] at this
  cases hd:o.dst with
  | none=>exact step fr (.inr ⟨rfl,fun e=>by rw [hd] at e;cases e⟩)
  | some d=>
   cases hb:ZbZ A i j with
   | false=>exact step fr (.inr ⟨rfl,fun _=>hb⟩)
   | true=>
    simp only [cond_true]
    rcases Zfh fr d t with h | ⟨h1,h2⟩
    ·exact step _ (.inl h)
    ·exact step _ (.inr ⟨h2,fun e=>by rw [hd] at e;cases e;exact absurd rfl h1⟩)
def ZcS.beside (O:ZcS) (i j:Nat):Prop:=O.draw=true∧ZbZ O.A i j=true
theorem ZcS.fr_get (O:ZcS) (i t:Nat) (fr:List AV):ZcA (O.fr all i fr) t=.undef∨(ZcA (O.fr all i fr) t=ZcA fr t∧∀k,ZcB all k=some t→¬O.beside i k):=by
 unfold ZcS.fr ZcS.beside
 cases O.draw with
 | false=>exact .inr ⟨rfl,fun k _ h=>by simp at h⟩
 | true=>
  rcases Zks O.A i t all 0 fr with h | ⟨h1,h2⟩
  ·exact .inl h
  ·refine .inr ⟨h1,fun k hk hb=>?_⟩
   have:=h2 k hk
   rw [Nat.zero_add] at this
   rw [this] at hb;cases hb.2
theorem ZpM {P:Program} (hH:ZhH P C H) {ρ:Type} (o:Oper) (av:Operand→AV) (h:Nat→Ob) (nid:Nat) (K:AV→Zbf→Option ρ) :
  Zfm C H o av h nid K=(Zfm C H o av h nid pr).bind (on K):=by
 unfold Zfm
 split
 ·split
  ·exact hH.nat _ _ _ _ K
  ·rfl
 ·exact ZsR _ _ _ _ _ _
theorem ZoC {P:Program} (hH:ZhH P C H) {ρ:Type} {K:List AV→Zgm→List ZmU→Option ρ} {r:ρ}:∀(ops:List Oper) (i:Nat) (pre:Nat→Ent),(∀j,ops[j]? = all[i+j]?)→
  Zi0 C H O all ops i (frD all fr0 pre yes i) (hL h0 pre i) (ZdG h0 pre i) K=some r→
  ∃es:Nat→Ent,(∀j,j<i→es j=pre j)∧(∀j o,ops[j]? = some o→Ztq C H O all fr0 h0 es (i+j) o)∧
   K (frD all fr0 es yes (i+ops.length)) (hL h0 es (i+ops.length)) (ZdG h0 es (i+ops.length))=some r
 | [],i,pre,ho,H1=>⟨pre,fun _ _=>rfl,fun j o h=>by simp at h,by simpa [Zi0] using H1⟩
 | o::ops,i,pre,ho,H1=>by
  have ho':∀j,ops[j]? = all[i+1+j]?:=fun j=>by have:=ho (j+1);simp at this;rw [this];congr 1;omega
  have hdst:ZcB all i=o.dst:=by rw [ZhW];have:=ho 0;simp at this;rw [←this];rfl
  have more:∀e:Ent,Zr2 all (O.fr all i (frD all fr0 pre yes i)) o e.run→
    (e.run=true→Zfm C H o (opnd (O.fr all i (frD all fr0 pre yes i))) (O.hp i (ZdG h0 pre i) (Zb0 (hL h0 pre i))) (Zax (hL h0 pre i)) pr=some (e.v,e.d)∧O.ok i (ZdG h0 pre i) e.d=true)→
    (e.run=false→e.v=.tup []∧e.d=[])→
    Zi0 C H O all ops (i+1) (Zhn (frD all fr0 pre yes i) o.dst e.v) (apD (hL h0 pre i) e.d) (cond e.run (⟨i,ZaI e.d,Zax (hL h0 pre i)⟩::ZdG h0 pre i) (ZdG h0 pre i)) K=some r→
    ∃es:Nat→Ent,(∀j,j<i→es j=pre j)∧(∀j o',(o::ops)[j]? = some o'→Ztq C H O all fr0 h0 es (i+j) o')∧
     K (frD all fr0 es yes (i+(o::ops).length)) (hL h0 es (i+(o::ops).length)) (ZdG h0 es (i+(o::ops).length))=some r:=by
   intro e hw hr hn H2
   let pre':Nat→Ent:=fun j=>if j=i then e else pre j
   have hp:∀j,j<i→pre' j=pre j:=fun j hj=>by simp only [pre'];rw [if_neg (by omega)]
   have hpi:pre' i=e:=by simp [pre']
   have e1:frD all fr0 pre' yes (i+1)=Zhn (frD all fr0 pre yes i) o.dst e.v:=by
    simp only [frD,yes,cond_true,hpi,hdst]
    rw [Zgd hp]
   have e2:hL h0 pre' (i+1)=apD (hL h0 pre i) e.d:=by simp only [hL,hpi];rw [Zgc hp]
   have e3:ZdG h0 pre' (i+1)=cond e.run (⟨i,ZaI e.d,Zax (hL h0 pre i)⟩::ZdG h0 pre i) (ZdG h0 pre i):=by
    simp only [ZdG,hpi];rw [Zgc hp,ZgM hp]
   obtain ⟨es,a1,a2,a3⟩:=ZoC hH ops (i+1) pre' ho' (by rw [e1,e2,e3];exact H2)
   have hes:∀j,j<i→es j=pre j:=fun j hj=>(a1 j (by omega)).trans (hp j hj)
   have hesi:es i=e:=(a1 i (by omega)).trans hpi
   refine ⟨es,hes,fun j o' hj=>?_,by rw [show i+(o::ops).length=i+1+ops.length by simp;omega];exact a3⟩
   cases j with
   | zero=>
    simp at hj;subst hj
    simp only [Nat.add_zero]
    refine ⟨?_,fun h=>?_,fun h=>?_⟩
    ·rw [hesi,Zgd hes];exact hw
    ·rw [hesi] at h ⊢;rw [Zgd hes,Zgc hes,ZgM hes];exact hr h
    ·rw [hesi] at h ⊢;exact hn h
   | succ j=>
    have:=a2 j o' (by simpa using hj)
    rwa [show i+1+j=i+(j+1) by omega] at this
  have goOk:Zr2 all (O.fr all i (frD all fr0 pre yes i)) o true→
    (Zfm C H o (opnd (O.fr all i (frD all fr0 pre yes i))) (O.hp i (ZdG h0 pre i) (Zb0 (hL h0 pre i))) (Zax (hL h0 pre i)) fun v d=>
     cond (O.ok i (ZdG h0 pre i) d) (Zi0 C H O all ops (i+1) (Zhn (frD all fr0 pre yes i) o.dst v) (apD (hL h0 pre i) d) (⟨i,ZaI d,(Zax (hL h0 pre i))⟩::ZdG h0 pre i) K) none)=some r→
    ∃es:Nat→Ent,(∀j,j<i→es j=pre j)∧(∀j o',(o::ops)[j]? = some o'→Ztq C H O all fr0 h0 es (i+j) o')∧
     K (frD all fr0 es yes (i+(o::ops).length)) (hL h0 es (i+(o::ops).length)) (ZdG h0 es (i+(o::ops).length))=some r:=by
   intro hw H2
   rw [ZpM hH] at H2
   cases hp:Zfm C H o (opnd (O.fr all i (frD all fr0 pre yes i))) (O.hp i (ZdG h0 pre i) (Zb0 (hL h0 pre i))) (Zax (hL h0 pre i)) pr with
   | none=>rw [hp] at H2;cases H2
   | some vd=>
    obtain ⟨v,d⟩:=vd
    rw [hp] at H2
    simp only [Option.bind_some,on] at H2
    cases hok:O.ok i (ZdG h0 pre i) d with
    | false=>rw [hok] at H2;simp at H2
    | true=>
     rw [hok] at H2;simp only [cond_true] at H2
     exact more ⟨v,d,true⟩ hw (fun _=>⟨hp,hok⟩) (fun h=>by cases h) H2
  have skipOk:Zr2 all (O.fr all i (frD all fr0 pre yes i)) o false→
    Zi0 C H O all ops (i+1) (Zhn (frD all fr0 pre yes i) o.dst (.tup [])) (hL h0 pre i) (ZdG h0 pre i) K=some r→
    ∃es:Nat→Ent,(∀j,j<i→es j=pre j)∧(∀j o',(o::ops)[j]? = some o'→Ztq C H O all fr0 h0 es (i+j) o')∧
     K (frD all fr0 es yes (i+(o::ops).length)) (hL h0 es (i+(o::ops).length)) (ZdG h0 es (i+(o::ops).length))=some r:=
   fun hw H2=>more ⟨.tup [],[],false⟩ hw (fun h=>by cases h) (fun _=>⟨rfl,rfl⟩) H2
  simp only [Zi0] at H1
  split at H1
  ·rename_i hg
   exact goOk (.inl hg) H1
  ·rename_i j want hg
   split at H1
   ·cases H1
   ·rename_i t ht
    split at H1
    ·rename_i b hb
     have hfr:ZcA (frD all fr0 pre yes i) t=.bool b:=by
      rcases O.fr_get (all:=all) i t (frD all fr0 pre yes i) with h | ⟨h,_⟩
      ·rw [hb] at h;cases h
      ·rw [←h];exact hb
     cases b with
     | true=>
      rw [ZlI _ t hfr] at H1
      cases want with
      | true=>exact goOk (.inr ⟨j,true,t,hg,ht,hb⟩) H1
      | false=>exact skipOk ⟨j,false,t,hg,ht,.inl hb⟩ H1
     | false=>
      simp only [cond_false] at H1
      rw [ZlI _ t hfr] at H1
      cases want with
      | true=>exact skipOk ⟨j,true,t,hg,ht,.inl hb⟩ H1
      | false=>exact goOk (.inr ⟨j,false,t,hg,ht,hb⟩) H1
    ·rename_i hb
     exact skipOk ⟨j,want,t,hg,ht,.inr hb⟩ H1
    ·cases H1
theorem ZgP (D:Nat→Bool):∀m,(frD all fr0 es D m).length=fr0.length
 | 0=>rfl
 | m+1=>by
  simp only [frD]
  cases D m with
  | false=>exact ZgP D m
  | true=>
   simp only [cond_true]
   unfold Zhn
   split
   ·exact ZgP D m
   ·rw [Zcz,List.length_set];exact ZgP D m
theorem Zrt (fr fr':List AV) (d:Option Nat) (v:AV) (t:Nat) (hl:fr.length=fr'.length) (h:d=some t∨ZcA fr t=ZcA fr' t):ZcA (Zhn fr d v) t=ZcA (Zhn fr' d v) t:=by
 unfold Zhn
 split
 ·rcases h with h | h
  ·cases h
  ·exact h
 ·rename_i v' d'
  simp only [Zcz,Zcv] at *
  by_cases e:d'=t
  ·subst e
   simp only [List.getD_eq_getElem?_getD,List.getElem?_set_self',hl]
   rcases Nat.lt_or_ge d' fr'.length with q | q
   ·rw [List.getElem?_eq_getElem q,List.getElem?_eq_getElem (by omega)];rfl
   ·rw [List.getElem?_eq_none q,List.getElem?_eq_none (by omega)]
  ·rcases h with h | h
   ·cases h;exact absurd rfl e
   ·simp only [List.getD_eq_getElem?_getD,List.getElem?_set_ne e] at *;exact h
theorem ZeN (fr:List AV) (d:Option Nat) (v:AV) (t:Nat) (h:d≠some t):ZcA (Zhn fr d v) t=ZcA fr t:=by
 unfold Zhn
 split
 ·rfl
 ·rename_i d'
  have e:d'≠t:=fun e=>h (by rw [e])
  simp only [Zcz,Zcv,List.getD_eq_getElem?_getD,List.getElem?_set_ne e]
theorem Zmt {D D':Nat→Bool} {t:Nat}:∀{m:Nat},(∀j,j<m→ZcB all j=some t→D j=D' j)→ZcA (frD all fr0 es D m) t=ZcA (frD all fr0 es D' m) t
 | 0,_=>rfl
 | m+1,h=>by
  have ih:=Zmt (m:=m) fun j hj=>h j (by omega)
  simp only [frD]
  by_cases e:ZcB all m=some t
  ·rw [h m (by omega) e]
   cases D' m with
   | false=>exact ih
   | true=>exact Zrt _ _ _ _ _ (by rw [ZgP,ZgP]) (.inl e)
  ·have:∀X:List AV,∀b:Bool,ZcA (cond b (Zhn X (ZcB all m) (es m).v) X) t=ZcA X t:=fun X b=>by
    cases b with
    | false=>rfl
    | true=>exact ZeN _ _ _ _ e
   rw [this,this];exact ih
theorem Zle {D:Nat→Bool} {t m:Nat}:∀{m':Nat},m≤m'→(∀j,m≤j→j<m'→ZcB all j=some t→D j=false)→ZcA (frD all fr0 es D m') t=ZcA (frD all fr0 es D m) t
 | 0,hm,_=>by
  have:m=0:=by omega
  subst this;rfl
 | m'+1,hm,h=>by
  by_cases e:m=m'+1
  ·subst e;rfl
  ·have ih:=Zle (m':=m') (by omega) fun j h1 h2=>h j h1 (by omega)
   simp only [frD]
   by_cases ed:ZcB all m'=some t
   ·rw [h m' (by omega) (by omega) ed];exact ih
   ·cases D m' with
    | false=>exact ih
    | true=>simp only [cond_true];rw [ZeN _ _ _ _ ed];exact ih
theorem Zou {D D':Nat→Bool} {k:Nat}:∀{m:Nat},(∀j,j<m→k∈ZaI (es j).d→D j=D' j)→hD h0 es D m k=hD h0 es D' m k
 | 0,_=>rfl
 | m+1,h=>by
  have ih:=Zou (m:=m) fun j hj=>h j (by omega)
  simp only [hD]
  by_cases e:k∈ZaI (es m).d
  ·rw [h m (by omega) e]
   cases D' m with
   | false=>exact ih
   | true=>exact ZkB _ e
  ·have:∀X:Nat→Ob,∀b:Bool,cond b (Zc4 X (es m).d) X k=X k:=fun X b=>by
    cases b with
    | false=>rfl
    | true=>exact ZcT _ e
   rw [this,this];exact ih
theorem Zrs {D:Nat→Bool} {k m:Nat}:∀{m':Nat},m≤m'→(∀j,m≤j→j<m'→k∈ZaI (es j).d→D j=false)→hD h0 es D m' k=hD h0 es D m k
 | 0,hm,_=>by
  have:m=0:=by omega
  subst this;rfl
 | m'+1,hm,h=>by
  by_cases e:m=m'+1
  ·subst e;rfl
  ·have ih:=Zrs (m':=m') (by omega) fun j h1 h2=>h j h1 (by omega)
   simp only [hD]
   by_cases ed:k∈ZaI (es m').d
   ·rw [h m' (by omega) (by omega) ed];exact ih
   ·cases D m' with
    | false=>exact ih
    | true=>simp only [cond_true];rw [ZcT _ ed];exact ih
theorem Zrr:∀m,hD h0 es yes m=Zb0 (hL h0 es m)
 | 0=>rfl
 | m+1=>by simp only [hD,hL,yes,cond_true];rw [Zow,←Zrr m]
theorem ZkM:∀(l:Zgm) (i:Nat) (o:Ob),l.length≤(ZlH l i o).length∧i<(ZlH l i o).length
 | [],0,o=>by simp [ZlH]
 | [],i+1,o=>by have:=ZkM [] i o;simp only [ZlH,List.length_cons,List.length_nil] at *;omega
 | x::l,0,o=>by simp [ZlH]
 | x::l,i+1,o=>by have:=ZkM l i o;simp only [ZlH,List.length_cons] at *;omega
theorem Zjp:∀(d:Zbf) (l:Zgm),l.length≤(apD l d).length∧∀k,k∈ZaI d→k<(apD l d).length
 | [],l=>⟨Nat.le_refl _,fun k hk=>by simp [ZaI] at hk⟩
 | (i,o)::d,l=>by
  have a:=ZkM l i o
  have b:=Zjp d (ZlH l i o)
  simp only [apD,ZaI,List.mem_cons]
  refine ⟨by omega,fun k hk=>?_⟩
  rcases hk with rfl | hk
  ·omega
  ·exact b.2 k hk
theorem ZfC:∀{m m':Nat},m≤m'→(hL h0 es m).length≤(hL h0 es m').length
 | m,0,h=>by
  have:m=0:=by omega
  subst this;exact Nat.le_refl _
 | m,m'+1,h=>by
  by_cases e:m=m'+1
  ·subst e;exact Nat.le_refl _
  ·exact Nat.le_trans (ZfC (by omega)) (Zjp _ _).1
theorem ZfT:∀{l:List Nat} {n:Nat},Zp3 l n=true↔n∈l
 | [],n=>by simp [Zp3]
 | a::l,n=>by
  simp only [Zp3,List.mem_cons]
  cases h:Nat.beq a n with
  | true=>simp [Nat.eq_of_beq_eq_true h]
  | false=>
   have:n≠a:=fun e=>by subst e;simp at h
   simp [this,ZfT]
theorem Zf9 (A:List Nat) (i:Nat):∀(lg:List ZmU) (l:List Nat) (k:Nat),(k∈l∨∃e,e∈lg∧ZbZ A i e.ix=true∧k∈e.keys)→k∈Zrp A i lg l
 | [],l,k,h=>by
  rcases h with h | ⟨e,h,_⟩
  ·exact h
  ·simp at h
 | x::lg,l,k,h=>by
  simp only [Zrp]
  refine Zf9 A i lg _ k ?_
  rcases h with h | ⟨e,h,hb,hk⟩
  ·left;cases ZbZ A i x.ix<;>simp [ZcL,h]
  ·cases h with
   | head=>left;rw [hb];simp [ZcL,hk]
   | tail _ h=>exact .inr ⟨e,h,hb,hk⟩
theorem Zj9 (A:List Nat) (cm:Nat→List Nat) (i k:Nat):∀(lg:List ZmU),Zmk A cm i k lg=true→∀e,e∈lg→ZbZ A i e.ix=true→k∈cm e.ix∨e.nid≤k
 | [],_,e,h,_=>by simp at h
 | x::lg,H,e,h,hb=>by
  simp only [Zmk] at H
  cases h with
  | head=>
   rw [hb] at H
   simp only [cond_true] at H
   cases hq:(Zp3 (cm x.ix) k||Nat.ble x.nid k) with
   | false=>rw [hq] at H;simp at H
   | true=>
    simp only [Bool.or_eq_true] at hq
    exact hq.imp ZfT.1 Nat.le_of_ble_eq_true
  | tail _ h=>
   have:Zmk A cm i k lg=true:=by
    cases h1:ZbZ A i x.ix with
    | false=>rw [h1] at H;exact H
    | true=>
     rw [h1] at H
     simp only [cond_true] at H
     cases hq:(Zp3 (cm x.ix) k||Nat.ble x.nid k) with
     | false=>rw [hq] at H;simp at H
     | true=>rw [hq] at H;exact H
   exact Zj9 A cm i k lg this e h hb
theorem Zep (A:List Nat) (cm:Nat→List Nat) (i:Nat) (lg:List ZmU) (hid:List Nat):∀(ks:List Nat),Zom A cm i lg hid ks=true→∀k,k∈ks→k∉hid∧Zmk A cm i k lg=true
 | [],_,k,h=>by simp at h
 | x::ks,H,k,h=>by
  simp only [Zom] at H
  cases h1:Zp3 hid x with
  | true=>rw [h1] at H;simp at H
  | false=>
   rw [h1] at H
   simp only [cond_false] at H
   cases h2:Zmk A cm i x lg with
   | false=>rw [h2] at H;simp at H
   | true=>
    rw [h2] at H
    simp only [cond_true] at H
    cases h with
    | head=>exact ⟨fun hm=>(by rw [ZfT.2 hm] at h1;cases h1),h2⟩
    | tail _ h=>exact Zep A cm i lg hid ks H k h
theorem ZhU:∀{i j:Nat},j<i→(es j).run=true→(⟨j,ZaI (es j).d,Zax (hL h0 es j)⟩:ZmU)∈ZdG h0 es i
 | 0,j,h,_=>by omega
 | i+1,j,h,hr=>by
  simp only [ZdG]
  by_cases e:j=i
  ·subst e;rw [hr];simp
  ·have:=ZhU (i:=i) (j:=j) (by omega) hr
   cases (es i).run<;>simp [this]
def ins (D:Nat→Bool) (i:Nat):Nat→Bool:=fun j=>if j=i then true else D j
theorem Zqz (fr:List AV) {d d':Option Nat} (v v':AV) (h:∀t,d=some t→d'≠some t):Zhn (Zhn fr d v) d' v'=Zhn (Zhn fr d' v') d v:=by
 cases d with
 | none=>rfl
 | some t=>
  cases d' with
  | none=>rfl
  | some t'=>
   have:t≠t':=fun e=>h t rfl (by rw [e])
   simp only [Zhn,Zcz]
   exact List.set_comm _ _ this
theorem ZgQ {D:Nat→Bool} {i:Nat} (hi:D i=false):∀{m:Nat},i<m→(∀j,i<j→j<m→D j=true→∀t,ZcB all i=some t→ZcB all j≠some t)→
  frD all fr0 es (ins D i) m=Zhn (frD all fr0 es D m) (ZcB all i) (es i).v
 | 0,h,_=>by omega
 | m+1,h,hw=>by
  simp only [frD]
  by_cases e:m=i
  ·subst e
   have h1:ins D m m=true:=by simp [ins]
   rw [h1,hi]
   simp only [cond_true,cond_false]
   congr 1
   have:∀q,q≤m→frD all fr0 es (ins D m) q=frD all fr0 es D q:=fun q=>by
    induction q with
    | zero=>intro _;rfl
    | succ q ih=>
     intro hq
     simp only [frD]
     rw [ih (by omega)]
     have:ins D m q=D q:=by simp only [ins];rw [if_neg (by omega)]
     rw [this]
   exact this m (Nat.le_refl _)
  ·have ih:=ZgQ hi (m:=m) (by omega) fun j h1 h2=>hw j h1 (by omega)
   have h1:ins D i m=D m:=by simp [ins,e]
   rw [h1,ih]
   cases hd:D m with
   | false=>rfl
   | true=>
    simp only [cond_true]
    exact Zqz _ _ _ (hw m (by omega) (by omega) hd)
theorem ZiM {D:Nat→Bool} {i:Nat} (hi:D i=false):∀{m:Nat},i<m→(∀j,i<j→j<m→D j=true→∀k,k∈ZaI (es i).d→k∉ZaI (es j).d)→
  hD h0 es (ins D i) m=Zc4 (hD h0 es D m) (es i).d
 | 0,h,_=>by omega
 | m+1,h,hw=>by
  simp only [hD]
  by_cases e:m=i
  ·subst e
   have h1:ins D m m=true:=by simp [ins]
   rw [h1,hi]
   simp only [cond_true,cond_false]
   congr 1
   have:∀q,q≤m→hD h0 es (ins D m) q=hD h0 es D q:=fun q=>by
    induction q with
    | zero=>intro _;rfl
    | succ q ih=>
     intro hq
     simp only [hD]
     rw [ih (by omega)]
     have:ins D m q=D q:=by simp only [ins];rw [if_neg (by omega)]
     rw [this]
   exact this m (Nat.le_refl _)
  ·have ih:=ZiM hi (m:=m) (by omega) fun j h1 h2=>hw j h1 (by omega)
   have h1:ins D i m=D m:=by simp [ins,e]
   rw [h1,ih]
   cases hd:D m with
   | false=>rfl
   | true=>
    simp only [cond_true]
    funext k
    by_cases hk:k∈ZaI (es m).d
    ·have hk':k∉ZaI (es i).d:=fun x=>hw m (by omega) (by omega) hd k x hk
     rw [ZcT _ hk']
     exact ZkB _ hk
    ·rw [ZcT _ hk]
     exact (Zgr _ (ZcT _ hk)).symm
end
end Ev
end
section
namespace Ev
open Go
structure Zgl (E:Env) (keep:Nat) (ι:Nat→Option Value) (N:Nat→Prop) (st:St) (a:Act) (w:World):Prop where
 fr:VRL ι N w st.fr a.tmps.toList
 rep:ZbF E ι N (Zb0 st.hp) w
 new:∀i,st.hp.length≤i→ι i=none
 kp:keep≤st.hp.length
structure Zui (E:Env) (keep:Nat) (all:List Oper) (fr0:List AV) (h0:Zgm) (es:Nat→Ent) (n:Nat) (D:Nat→Bool) (ι0:Nat→Option Value) (N0:Nat→Prop) (w0:World) (df:List Deferred)
  (ι:Nat→Option Value) (N:Nat→Prop) (a:Act) (w:World):Prop where
 fr:VRL ι N w (frD all fr0 es D n) a.tmps.toList
 rep:ZbF E ι N (hD h0 es D n) w
 born:∀k,ι k≠none→k<h0.length∨∃i,i<n∧D i=true∧k∈ZaI (es i).d∧(hL h0 es i).length≤k
 grow:ZjI E keep ι0 N0 w0 ι N w
 df:a.defers=df
theorem VRL.set {ι:Nat→Option Value} {N:Nat→Prop} {w:World}:∀{as:List AV} {vs:List Value},VRL ι N w as vs→∀(t:Nat) (a:AV) (v:Value),VR ι N w a v→VRL ι N w (as.set t a) (vs.set t v)
 | [],[],_,t,a,v,_=>by simp [VRL]
 | x::as,y::vs,h,0,a,v,hv=>by simp only [VRL] at h;simp only [List.set_cons_zero,VRL];exact ⟨hv,h.2⟩
 | x::as,y::vs,h,t+1,a,v,hv=>by simp only [VRL] at h;simp only [List.set_cons_succ,VRL];exact ⟨h.1,VRL.set h.2 t a v hv⟩
 | [],_::_,h,_,_,_,_=>by simp [VRL] at h
 | _::_,[],h,_,_,_,_=>by simp [VRL] at h
theorem VRL.put {ι:Nat→Option Value} {N:Nat→Prop} {w:World} {fr:List AV} {a:Act} (h:VRL ι N w fr a.tmps.toList) (d:Option Nat) {v:AV} {val:Value} (hv:VR ι N w v val) :
  VRL ι N w (Zhn fr d v) (a.put d val).tmps.toList:=by
 unfold Zhn Act.put
 cases d with
 | none=>exact h
 | some t=>
  simp only [Zcz,Array.toList_setIfInBounds]
  exact h.set t v val hv
theorem ZjU (a:Act) (d:Option Nat) (v:Value):(a.put d v).defers=a.defers:=by cases d<;>rfl
theorem ZmI {ι:Nat→Option Value} {N:Nat→Prop} {w:World} {v:Value} {a:AV} (h:ZoG v=some a):VR ι N w a v∧v.oneCell'=true:=by
 unfold ZoG at h
 split at h<;>cases h<;>refine ⟨?_,rfl⟩<;>simp only [VR,Zto]
theorem ZmG {ι:Nat→Option Value} {N:Nat→Prop} {w:World}:∀{vs:List Value} {as:List AV},ZmH vs=some as→VRL ι N w as vs∧∀x,x∈vs→x.oneCell'=true
 | [],as,h=>by simp only [ZmH,Option.some.injEq] at h;subst h;exact ⟨by simp only [VRL],fun x hx=>by simp at hx⟩
 | v::vs,as,h=>by
  simp only [ZmH] at h
  split at h
  ·rename_i a as' h1 h2
   cases h
   have q1:=ZmI (ι:=ι) (N:=N) (w:=w) h1
   have q2:=ZmG (ι:=ι) (N:=N) (w:=w) h2
   refine ⟨by simp only [VRL];exact ⟨q1.1,q2.1⟩,fun x hx=>?_⟩
   cases hx with
   | head=>exact q1.2
   | tail _ hx=>exact q2.2 x hx
  ·cases h
theorem ZrJ {ι:Nat→Option Value} {N:Nat→Prop} {w:World} (v:Value):VR ι N w (ZrK v) v:=by
 unfold ZrK
 split
 ·rename_i cs
  split
  ·rename_i as h
   obtain ⟨q1,q2⟩:=ZmG (ι:=ι) (N:=N) (w:=w) h
   simp only [VR]
   exact ⟨cs,rfl,q1,fun x hx=>q2 x hx⟩
  ·simp only [VR]
 ·split
  ·rename_i a h
   exact (ZmI h).1
  ·simp only [VR]
theorem VRL.opnd {ι:Nat→Option Value} {N:Nat→Prop} {w:World} {fr F:List AV} {a:Act} (h:VRL ι N w fr a.tmps.toList) (hF:∀t,ZcA F t=.undef∨ZcA F t=ZcA fr t) (x:Operand) :
  VR ι N w (opnd F x) (a.eval x):=by
 cases x with
 | tmp t=>
  simp only [Ev.opnd,Act.eval]
  rcases hF t with e | e
  ·rw [e];simp only [VR]
  ·rw [e,Zcv]
   rcases Nat.lt_or_ge t fr.length with q | q
   ·obtain ⟨v,hv,hr⟩:=h.get t fr[t] (List.getElem?_eq_getElem q)
    have hv':a.tmps[t]? = some v:=by rw [←hv];simp
    simp only [List.getD_eq_getElem?_getD,List.getElem?_eq_getElem q,Option.getD_some]
    have:a.tmps.getD t undef=v:=by simp [hv']
    rw [this];exact hr
   ·simp only [List.getD_eq_getElem?_getD,List.getElem?_eq_none q,Option.getD_none,VR]
 | const v=>exact ZrJ v
 | global g=>simp only [Ev.opnd,Act.eval,VR]
 | func f=>simp only [Ev.opnd,Act.eval,VR];exact ⟨#[],#[],rfl,by simp [VRL],by simp [VRL]⟩
theorem VRL.slot {ι:Nat→Option Value} {N:Nat→Prop} {w:World} {fr F:List AV} {tmps:Array Value} (h:VRL ι N w fr tmps.toList) {t:Nat} (hF:ZcA F t=.undef∨ZcA F t=ZcA fr t) {x:AV} (hx:ZcA F t=x) (hu:x≠.undef) :
  ∃v,tmps[t]? = some v∧VR ι N w x v:=by
 subst hx
 rcases hF with e | e
 ·exact absurd e hu
 ·rw [e,Zcv] at hu ⊢
  rcases Nat.lt_or_ge t fr.length with q | q
  ·obtain ⟨v,hv,hr⟩:=h.get t fr[t] (List.getElem?_eq_getElem q)
   refine ⟨v,by rw [←hv];simp,?_⟩
   simp only [List.getD_eq_getElem?_getD,List.getElem?_eq_getElem q,Option.getD_some];exact hr
  ·simp only [List.getD_eq_getElem?_getD,List.getElem?_eq_none q,Option.getD_none] at hu
   exact absurd rfl hu
theorem Zqd {ι:Nat→Option Value} {N:Nat→Prop} {w:World} {ops:Array Oper} {F fr:List AV} {tmps:Array Value} (h:VRL ι N w fr tmps.toList) (hF:∀t,ZcA F t=.undef∨ZcA F t=ZcA fr t)
  {o:Oper} {b:Bool} (hw:Zr2 ops.toList F o b):Region.wanted o (yielded ops tmps)=b:=by
 have yl:∀j t,ZcB ops.toList j=some t→yielded ops tmps j=match tmps[t]? with | some (.bool b)=>some b | _=>none:=fun j t ht=>by
  rw [ZhW] at ht
  have:(ops[j]?).bind (·.dst)=some t:=by simpa using ht
  unfold yielded
  rw [this];rfl
 cases b with
 | true=>
  rcases hw with hg | ⟨j,want,t,hg,ht,hx⟩
  ·simp [Region.wanted,hg]
  ·obtain ⟨v,hv,hr⟩:=h.slot (hF t) hx (by simp)
   simp only [VR] at hr;subst hr
   simp [Region.wanted,hg,yl j t ht,hv]
 | false=>
  obtain ⟨j,want,t,hg,ht,hx⟩:=hw
  rcases hx with hx | hx
  ·obtain ⟨v,hv,hr⟩:=h.slot (hF t) hx (by simp)
   simp only [VR] at hr;subst hr
   simp [Region.wanted,hg,yl j t ht,hv]
  ·obtain ⟨v,hv,hr⟩:=h.slot (hF t) hx (by simp)
   simp only [VR] at hr
   obtain ⟨vs,rfl,_⟩:=hr
   simp [Region.wanted,hg,yl j t ht,hv]
section
variable {E:Env} {keep:Nat} {all:List Oper} {fr0:List AV} {h0:Zgm} {es:Nat→Ent} {H:Hnd} {O:ZcS} {ops:Array Oper}
theorem Zi5 (A:List Nat) (i:Nat) (d:Option Nat):∀(l:List Oper) (j:Nat),Zi6 A i d l j=true→∀k t,d=some t→ZcB l k=some t→ZbZ A i (j+k)=false
 | [],j,_,k,t,_,hk=>by cases k<;>simp [ZcB] at hk
 | o::r,j,h,k,t,hd,hk=>by
  simp only [Zi6] at h
  have hr:Zi6 A i d r (j+1)=true∧(ZsT d o.dst=true→ZbZ A i j=false):=by
   cases h1:ZsT d o.dst with
   | false=>rw [h1] at h;exact ⟨h,fun x=>by cases x⟩
   | true=>
    rw [h1] at h
    simp only [cond_true] at h
    cases h2:ZbZ A i j with
    | true=>rw [h2] at h;simp at h
    | false=>rw [h2] at h;exact ⟨h,fun _=>rfl⟩
  cases k with
  | zero=>
   simp only [ZcB] at hk
   refine hr.2 ?_
   rw [hd,hk];simp [ZsT]
  | succ k=>
   have:=Zi5 A i d r (j+1) hr.1 k t hd hk
   rwa [show j+1+k=j+(k+1) by omega] at this
theorem Zkk (A:List Nat) (all:List Oper):∀(l:List Oper) (i:Nat),ZpO A all l i=true→∀k t j,ZcB l k=some t→ZcB all j=some t→ZbZ A (i+k) j=false
 | [],i,_,k,t,j,hk,_=>by cases k<;>simp [ZcB] at hk
 | o::r,i,h,k,t,j,hk,hj=>by
  simp only [ZpO] at h
  cases h1:Zi6 A i o.dst all 0 with
  | false=>rw [h1] at h;simp at h
  | true=>
   rw [h1] at h
   cases k with
   | zero=>
    have:=Zi5 A i o.dst all 0 h1 j t hk hj
    rwa [Nat.zero_add] at this
   | succ k=>
    have:=Zkk A all r (i+1) h k t j hk hj
    rwa [show i+1+k=i+(k+1) by omega] at this
theorem Zqo (T:Zey E.P E.C) (hH:ZhH E.P E.C H) (hops:ops.toList=all) (hat:∀i o,all[i]? = some o→Ztq E.C H O all fr0 h0 es i o) (hdst:O.draw=true→ZpO O.A all all 0=true)
  {D:Nat→Bool} {i:Nat} {o:Oper} (hi:all[i]? = some o) (hDi:D i=false) (P1:∀j,j<i→D j=false→O.beside i j) (P2:∀j,i<j→D j=true→O.beside i j)
  {ι0:Nat→Option Value} {N0:Nat→Prop} {w0:World} {df:List Deferred} {ι:Nat→Option Value} {N:Nat→Prop} {a:Act} {w:World} (hk0:keep≤h0.length)
  (I:Zui E keep all fr0 h0 es all.length D ι0 N0 w0 df ι N a w) {Q:Exit→Act→World→Prop} {K:Act→World→Prop}
  (hK:∀ι' N' a' w',Zui E keep all fr0 h0 es all.length (ins D i) ι0 N0 w0 df ι' N' a' w'→K a' w'):wpOp E.P ops Q i K a w:=by
 have hA:=hat i o hi
 have hin:i<all.length:=(List.getElem?_eq_some_iff.1 hi).1
 have hoi:ops[i]? = some o:=by rw [←hops] at hi;simpa using hi
 have hdi:ZcB all i=o.dst:=by rw [ZhW,hi];rfl
 have agreeF:∀t,ZcA (O.fr all i (frD all fr0 es yes i)) t=.undef∨ZcA (O.fr all i (frD all fr0 es yes i)) t=ZcA (frD all fr0 es D all.length) t:=fun t=>by
  rcases O.fr_get (all:=all) i t (frD all fr0 es yes i) with h | ⟨h,hn⟩
  ·exact .inl h
  ·right
   rw [h]
   rw [Zle (m:=i) (m':=all.length) (by omega) fun j h1 h2 h3=>?_]
   ·refine Zmt fun j hj ht=>?_
    cases hd:D j with
    | true=>rfl
    | false=>exact absurd (P1 j hj hd) (hn j ht)
   ·cases hd:D j with
    | false=>rfl
    | true=>
     have:i<j:=by
      rcases Nat.lt_or_ge i j with q | q
      ·exact q
      ·have:j=i:=by omega
       subst this;rw [hDi] at hd;cases hd
     exact absurd (P2 j this hd) (hn j h3)
 have hwant:=Zqd (ops:=ops) I.fr agreeF (o:=o) (b:=(es i).run) (by rw [hops];exact hA.want)
 have hslot:∀j,i<j→j<all.length→D j=true→∀t,ZcB all i=some t→ZcB all j≠some t:=fun j h1 h2 h3 t h4 h5=>by
  have hb:=P2 j h1 h3
  have:=Zkk O.A all all 0 (hdst hb.1) i t j h4 h5
  rw [Nat.zero_add,hb.2] at this;cases this
 unfold wpOp
 rw [hoi]
 dsimp only
 rw [hwant]
 cases hrun:(es i).run with
 | false=>
  obtain ⟨hv,hd⟩:=hA.not hrun
  simp only [Bool.false_eq_true,if_false]
  refine hK ι N _ w ⟨?_,?_,fun k hk=>?_,I.grow,by rw [ZjU];exact I.df⟩
  ·rw [ZgQ hDi hin hslot,hv,hdi]
   exact I.fr.put o.dst (by simp only [VR];exact ⟨#[],rfl,by simp [VRL]⟩)
  ·rw [ZiM hDi hin (fun j _ _ _ k hk=>by rw [hd] at hk;simp [ZaI] at hk),hd]
   exact I.rep
  ·rcases I.born k hk with h | ⟨j,h1,h2,h3⟩
   ·exact .inl h
   ·exact .inr ⟨j,h1,by simp [ins,h2],h3⟩
 | true=>
  obtain ⟨hev,hok⟩:=hA.ran hrun
  simp only [if_true]
  left
  rw [ZaX] at hev
  have hidden:∀j k,k∈ZaI (es j).d→j<i→O.beside i j→k∈O.hid i (ZdG h0 es i):=fun j k hk hj hb=>by
   have hrj:(es j).run=true:=by
    cases hr:(es j).run with
    | true=>rfl
    | false=>
     have hjo:j<all.length:=by omega
     have:=((hat j all[j] (List.getElem?_eq_getElem hjo)).not hr).2
     rw [this] at hk;simp [ZaI] at hk
   unfold ZcS.hid
   rw [hb.1]
   exact Zf9 _ _ _ _ _ (.inr ⟨_,ZhU hj hrj,hb.2,hk⟩)
  have Zef:∀j k,k∈ZaI (es j).d→i<j→j<all.length→O.beside i j→k∈O.hid i (ZdG h0 es i)∨(hL h0 es i).length≤k:=fun j k hk hj hjn hb=>by
   have hrj:(es j).run=true:=by
    cases hr:(es j).run with
    | true=>rfl
    | false=>
     have:=((hat j all[j] (List.getElem?_eq_getElem hjn)).not hr).2
     rw [this] at hk;simp [ZaI] at hk
   have hokj:=((hat j all[j] (List.getElem?_eq_getElem hjn)).ran hrj).2
   unfold ZcS.ok at hokj
   rw [hb.1] at hokj
   have:=Zj9 _ _ _ _ _ (Zep _ _ _ _ _ _ hokj k hk).2 _ (ZhU hj hrun) (ZhE hb.2)
   rcases this with h | h
   ·left
    unfold ZcS.hid
    rw [hb.1]
    exact Zf9 _ _ _ _ _ (.inl h)
   ·right;rw [ZaX] at h;exact h
  have agreeH:∀k,k∉O.hid i (ZdG h0 es i)→k<(hL h0 es i).length→Zb0 (hL h0 es i) k=hD h0 es D all.length k:=fun k h1 h2=>by
   rw [Zrs (m:=i) (m':=all.length) (by omega) fun j q1 q2 q3=>?_]
   ·rw [←Zrr]
    refine Zou fun j hj hk=>?_
    cases hd:D j with
    | true=>rfl
    | false=>exact absurd (hidden j k hk hj (P1 j hj hd)) h1
   ·cases hd:D j with
    | false=>rfl
    | true=>
     have hij:i<j:=by
      rcases Nat.lt_or_ge i j with q | q
      ·exact q
      ·have:j=i:=by omega
       subst this;rw [hDi] at hd;cases hd
     rcases Zef j k q3 hij q2 (P2 j hij hd) with h | h
     ·exact absurd h h1
     ·omega
  have hpk:∀k,O.hp i (ZdG h0 es i) (Zb0 (hL h0 es i)) k=.dead∨(O.hp i (ZdG h0 es i) (Zb0 (hL h0 es i)) k=Zb0 (hL h0 es i) k∧k∉O.hid i (ZdG h0 es i)):=fun k=>by
   unfold ZcS.hp ZcS.hid
   cases O.draw with
   | false=>exact .inr ⟨rfl,by simp⟩
   | true=>
    simp only [cond_true,ZtJ]
    cases hm:Zp3 (Zrp O.A i (ZdG h0 es i) (O.cm i)) k with
    | true=>exact .inl rfl
    | false=>exact .inr ⟨rfl,fun x=>by rw [ZfT.2 x] at hm;cases hm⟩
  have hHle:∀k,O.hp i (ZdG h0 es i) (Zb0 (hL h0 es i)) k=hD h0 es D all.length k∨O.hp i (ZdG h0 es i) (Zb0 (hL h0 es i)) k=.dead:=fun k=>by
   rcases hpk k with h | ⟨h,hn⟩
   ·exact .inr h
   ·rcases Nat.lt_or_ge k (hL h0 es i).length with q | q
    ·left;rw [h];exact agreeH k hn q
    ·right;rw [h];exact Zlc _ _ q
  have hkeys:∀k,k∈ZaI (es i).d→k<(hL h0 es (i+1)).length:=fun k hk=>by simp only [hL];exact (Zjp _ _).2 k hk
  have fresh:∀k,k∈ZaI (es i).d→(hL h0 es i).length≤k→ι k=none:=fun k hk hn=>by
   cases hc:ι k with
   | none=>rfl
   | some u=>
    rcases I.born k (by rw [hc];simp) with h | ⟨j,h1,h2,h3,h4⟩
    ·have:=ZfC (h0:=h0) (es:=es) (Nat.zero_le i)
     simp only [hL] at this;omega
    ·rcases Nat.lt_or_ge j i with q | q
     ·have:=(Zjp (es j).d (hL h0 es j)).2 k h3
      have h5:=ZfC (h0:=h0) (es:=es) (m:=j+1) (m':=i) (by omega)
      simp only [hL] at h5;omega
     ·have:j≠i:=by rintro rfl;rw [hDi] at h2;cases h2
      have h5:=ZfC (h0:=h0) (es:=es) (m:=i+1) (m':=j) (by omega)
      have:=hkeys k hk;omega
  have hidKeys:∀k,k∈ZaI (es i).d→k∉O.hid i (ZdG h0 es i):=fun k hk=>by
   unfold ZcS.ok at hok
   cases hd:O.draw with
   | false=>unfold ZcS.hid;rw [hd];simp
   | true=>rw [hd] at hok;exact (Zep _ _ _ _ _ _ hok k hk).1
  have eqKeys:∀k,k∈ZaI (es i).d→O.hp i (ZdG h0 es i) (Zb0 (hL h0 es i)) k=hD h0 es D all.length k:=fun k hk=>by
   rcases Nat.lt_or_ge k (hL h0 es i).length with q | q
   ·rcases hpk k with h | ⟨h,hn⟩
    ·have h2:O.hp i (ZdG h0 es i) (Zb0 (hL h0 es i)) k=Zb0 (hL h0 es i) k:=by
      have:=hidKeys k hk
      unfold ZcS.hp
      cases hd:O.draw with
      | false=>rfl
      | true=>
       simp only [cond_true,ZtJ]
       cases hm:Zp3 (O.hid i (ZdG h0 es i)) k with
       | false=>rfl
       | true=>exact absurd (ZfT.1 hm) this
     rw [h2];exact agreeH k (hidKeys k hk) q
    ·rw [h];exact agreeH k hn q
   ·have hdead:hD h0 es D all.length k=.dead:=by
     by_cases hd:hD h0 es D all.length k=.dead
     ·exact hd
     ·obtain ⟨u,hu,_⟩:=I.rep.ob k hd
      rw [fresh k hk q] at hu;cases hu
    rw [hdead]
    rcases hpk k with h | ⟨h,_⟩
    ·exact h
    ·rw [h];exact Zlc _ _ q
  have hpart:=I.rep.part hHle
  have hop:=Zmy (E:=E.part ι (hD h0 es D all.length) (O.hp i (ZdG h0 es i) (Zb0 (hL h0 es i))) w) T hH hpart (av:=opnd (O.fr all i (frD all fr0 es yes i))) (ev:=a.eval)
   (fun x=>I.fr.opnd agreeF x) hev fresh
  refine OpR.wp (OpR.mono hop fun val w' ⟨ι',N',p⟩=>?_)
  have p:=Zsc.whole I.rep hHle p eqKeys
  refine hK ι' N' _ w' ⟨?_,?_,fun k hk=>?_,?_,by rw [ZjU];exact I.df⟩
  ·rw [ZgQ hDi hin hslot,hdi]
   exact (VRL.mono p.later _ _ I.fr).put o.dst p.vr
  ·rw [ZiM hDi hin fun j h1 h2 h3 k hk hkj=>?_]
   ·exact p.rep
   ·
    have hb:=P2 j h1 h3
    have hrj:(es j).run=true:=by
     cases hr:(es j).run with
     | true=>rfl
     | false=>
      have:=((hat j all[j] (List.getElem?_eq_getElem h2)).not hr).2
      rw [this] at hkj;simp [ZaI] at hkj
    have hokj:=((hat j all[j] (List.getElem?_eq_getElem h2)).ran hrj).2
    unfold ZcS.ok at hokj
    rw [hb.1] at hokj
    have hn:=(Zep _ _ _ _ _ _ hokj k hkj).1
    apply hn
    unfold ZcS.hid
    rw [hb.1]
    exact Zf9 _ _ _ _ _ (.inr ⟨_,ZhU h1 hrun,ZhE hb.2,hk⟩)
  ·rcases p.new k with e | ⟨h1,h2⟩
   ·rw [e] at hk
    rcases I.born k hk with h | ⟨j,h1,h2,h3⟩
    ·exact .inl h
    ·exact .inr ⟨j,h1,by simp [ins,h2],h3⟩
   ·exact .inr ⟨i,hin,by simp [ins],h2,h1⟩
  ·refine I.grow.trans ⟨fun k hk=>?_,p.later.ro,p.later.mem,p.bound⟩
   rcases p.new k with e | ⟨h1,_⟩
   ·exact e
   ·have:=ZfC (h0:=h0) (es:=es) (Nat.zero_le i)
    simp only [hL] at this;omega
theorem frD_D {D D':Nat→Bool}:∀{m:Nat},(∀j,j<m→D j=D' j)→frD all fr0 es D m=frD all fr0 es D' m
 | 0,_=>rfl
 | m+1,h=>by simp only [frD];rw [frD_D fun j hj=>h j (by omega),h m (by omega)]
theorem hD_D {D D':Nat→Bool}:∀{m:Nat},(∀j,j<m→D j=D' j)→hD h0 es D m=hD h0 es D' m
 | 0,_=>rfl
 | m+1,h=>by simp only [hD];rw [hD_D fun j hj=>h j (by omega),h m (by omega)]
theorem ZiU {D:Nat→Bool} (h:∀j,D j=false):∀{m:Nat},frD all fr0 es D m=fr0
 | 0=>rfl
 | m+1=>by simp only [frD];rw [h m];exact ZiU h
theorem Zk9 {D:Nat→Bool} (h:∀j,D j=false):∀{m:Nat},hD h0 es D m=Zb0 h0
 | 0=>rfl
 | m+1=>by simp only [hD];rw [h m];exact Zk9 h
theorem Zrj {d:Zbf} (h:ZaI d=[]):d=[]:=by
 cases d with
 | nil=>rfl
 | cons x d=>obtain ⟨i,o⟩:=x;simp [ZaI] at h
theorem ZgF {C:Ctx} (hat:∀i o,all[i]? = some o→Ztq C H O all fr0 h0 es i o):∀{m:Nat},m≤all.length→Znk (ZdG h0 es m)=true→hL h0 es m=h0
 | 0,_,_=>rfl
 | m+1,hm,hq=>by
  have ho:=List.getElem?_eq_getElem (by omega:m<all.length)
  simp only [ZdG] at hq
  simp only [hL]
  cases hr:(es m).run with
  | false=>
   rw [hr] at hq
   rw [((hat m _ ho).not hr).2,ZgF hat (by omega) hq];rfl
  | true=>
   rw [hr] at hq
   simp only [cond_true,Znk] at hq
   split at hq
   ·rename_i hk
    rw [Zrj hk,ZgF hat (by omega) hq];rfl
   ·cases hq
theorem Zui.done {D:Nat→Bool} {ι0:Nat→Option Value} {N0:Nat→Prop} {w0:World} {df:List Deferred} {ι:Nat→Option Value} {N:Nat→Prop} {a:Act} {w:World} (hk0:keep≤h0.length)
  (I:Zui E keep all fr0 h0 es all.length D ι0 N0 w0 df ι N a w) (hD:∀j,j<all.length→D j=true):Zgl E keep ι N ⟨frD all fr0 es yes all.length,hL h0 es all.length⟩ a w:=by
 have hm:=ZfC (h0:=h0) (es:=es) (Nat.zero_le all.length)
 simp only [hL] at hm
 refine ⟨?_,?_,fun k hk=>?_,by dsimp only;omega⟩
 ·rw [←frD_D (D:=D) fun j hj=>by rw [hD j hj];rfl];exact I.fr
 ·dsimp only;rw [←Zrr,←hD_D (D:=D) fun j hj=>by rw [hD j hj];rfl];exact I.rep
 ·dsimp only at hk
  cases hc:ι k with
  | none=>rfl
  | some u=>
   rcases I.born k (by rw [hc];simp) with h | ⟨i,h1,h2,h3,h4⟩
   ·omega
   ·have:=(Zjp (es i).d (hL h0 es i)).2 k h3
    have h5:=ZfC (h0:=h0) (es:=es) (m:=i+1) (m':=all.length) (by omega)
    simp only [hL] at h5;omega
theorem Zkn {D:Nat→Bool} {i:Nat} (hD:D i=false):∀(l:List Nat),i∈l→l.countP (fun j=>!ins D i j)<l.countP (fun j=>!D j)
 | [],h=>by simp at h
 | x::l,h=>by
  have hle:l.countP (fun j=>!ins D i j)≤l.countP (fun j=>!D j):=List.countP_mono_left fun j _ hj=>by
   simp only [ins] at hj
   by_cases e:j=i
   ·simp [e] at hj
   ·simpa [e] using hj
  by_cases e:x=i
  ·subst e
   have h1:ins D x x=true:=by simp [ins]
   simp only [List.countP_cons,h1,hD]
   simp only [Bool.not_true,Bool.not_false,Bool.false_eq_true,if_true,if_false]
   omega
  ·have hm:i∈l:=by simpa [Ne.symm e] using h
   have:=Zkn hD l hm
   have hx:ins D i x=D x:=by simp [ins,e]
   simp only [List.countP_cons,hx]
   omega
theorem Zi3 (i:Nat):∀(l:List Edge),Zi4 i l=true→∀e,e∈l→ZeS e=true→e.on<i
 | [],_,e,h,_=>by simp at h
 | x::l,H,e,h,hb=>by
  simp only [Zi4] at H
  have q:Zi4 i l=true∧(ZeS x=true→x.on<i):=by
   cases h1:ZeS x with
   | false=>rw [h1] at H;exact ⟨H,fun y=>by cases y⟩
   | true=>
    rw [h1] at H
    simp only [cond_true] at H
    cases h2:Nat.blt x.on i with
    | false=>rw [h2] at H;simp at H
    | true=>rw [h2] at H;exact ⟨H,fun _=>by rwa [Nat.blt_eq] at h2⟩
  cases h with
  | head=>exact q.2 hb
  | tail _ h=>exact Zi3 i l q.1 e h hb
theorem Zhy:∀(l:List Oper) (i:Nat),Zi2 l i=true→∀k o,l[k]? = some o→∀e,e∈o.after.toList→ZeS e=true→e.on<i+k
 | [],i,_,k,o,hk=>by simp at hk
 | x::l,i,H,k,o,hk=>by
  simp only [Zi2] at H
  cases h1:Zi4 i x.after.toList with
  | false=>rw [h1] at H;simp at H
  | true=>
   rw [h1] at H
   cases k with
   | zero=>simp at hk;subst hk;intro e he hb;have:=Zi3 i _ h1 e he hb;omega
   | succ k=>
    intro e he hb
    have:=Zhy l (i+1) H k o (by simpa using hk) e he hb
    omega
theorem Zfl (T:Zey E.P E.C) (hH:ZhH E.P E.C H) {ρ:Type} {draw:Bool} {cm:List (Nat×List Nat)} {st:St} {K:List AV→Zgm→List ZmU→Option ρ} {r:ρ}
  (H1:Zes E.C H ops.toList draw cm st K=some r) {a:Act} {w:World} {ι:Nat→Option Value} {N:Nat→Prop} (R:Zgl E keep ι N st a w) {id:Nat} {Q:Exit→Act→World→Prop}
  (hQ:∀fr h lg,K fr h lg=some r→(Znk lg=true→h=st.hp)→fr.length=st.fr.length→(∀t,(∀k,ZcB ops.toList k≠some t)→ZcA fr t=ZcA st.fr t)→∀a' w' ι' N',Zgl E keep ι' N' ⟨fr,h⟩ a' w'→ZjI E keep ι N w ι' N' w'→a'.defers=a.defers→Q .normal a' w') :
  (Code.region id ops draw).wp E.P Q a w:=by
 have start:∀(O:ZcS),Zi0 E.C H O ops.toList ops.toList 0 st.fr st.hp [] K=some r→∃es:Nat→Ent,(∀i o,ops.toList[i]? = some o→Ztq E.C H O ops.toList st.fr st.hp es i o)∧
   K (frD ops.toList st.fr es yes ops.toList.length) (hL st.hp es ops.toList.length) (ZdG st.hp es ops.toList.length)=some r:=fun O h=>by
  obtain ⟨es,_,h1,h2⟩:=ZoC (all:=ops.toList) (fr0:=st.fr) (h0:=st.hp) hH ops.toList 0 (fun _=>⟨.undef,[],false⟩) (fun j=>by simp) h
  refine ⟨es,fun i o hi=>?_,by simpa using h2⟩
  have:=h1 i o hi
  rwa [Nat.zero_add] at this
 have fin:∀{O:ZcS} {es:Nat→Ent},(∀i o,ops.toList[i]? = some o→Ztq E.C H O ops.toList st.fr st.hp es i o)→
   K (frD ops.toList st.fr es yes ops.toList.length) (hL st.hp es ops.toList.length) (ZdG st.hp es ops.toList.length)=some r→
   ∀D ι' N' a' w',Zui E keep ops.toList st.fr st.hp es ops.toList.length D ι N w a.defers ι' N' a' w'→(∀j,j<ops.toList.length→D j=true)→Q .normal a' w':=fun {O es} hat hK D ι' N' a' w' I hD=>
  hQ _ _ _ hK (fun hq=>ZgF hat (Nat.le_refl _) hq) (ZgP _ _) (fun t ht=>Zle (m:=0) (Nat.zero_le _) fun j _ _ hj=>absurd hj (ht j)) a' w' ι' N' (I.done R.kp hD) I.grow I.df
 cases draw with
 | false=>
  obtain ⟨es,hat,hK⟩:=start _ (by simpa only [Zes,cond_false] using H1)
  refine wp_region ?_
  have loop:∀q m,m+q=ops.toList.length→∀ι' N' a' w',Zui E keep ops.toList st.fr st.hp es ops.toList.length (fun j=>decide (j<m)) ι N w a.defers ι' N' a' w'→wpOps E.P ops Q (List.range' m q) a' w':=by
   intro q
   induction q with
   | zero=>
    intro m hm ι' N' a' w' I
    simp only [List.range'_zero,wpOps]
    exact fin hat hK _ ι' N' a' w' I fun j hj=>by simp;omega
   | succ q ih=>
    intro m hm ι' N' a' w' I
    rw [List.range'_succ,wpOps_cons]
    have hmo:=List.getElem?_eq_getElem (by omega:m<ops.toList.length)
    refine Zqo (all:=ops.toList) T hH rfl hat (fun h=>by cases h) hmo (by simp) (fun j hj hd=>by simp at hd;omega) (fun j hj hd=>by simp at hd;omega) R.kp I fun ι2 N2 a2 w2 I2=>?_
    refine ih (m+1) (by omega) ι2 N2 a2 w2 ?_
    have:ins (fun j=>decide (j<m)) m=fun j=>decide (j<m+1):=by
     funext j
     simp only [ins]
     by_cases e:j=m
     ·simp [e]
     ·simp [e];omega
    rw [←this];exact I2
  have:=loop ops.toList.length 0 (by omega) ι N a w ⟨?_,?_,fun k hk=>?_,.refl _ _ _ _ _,rfl⟩
  ·rw [List.range_eq_range'];simpa using this
  ·rw [ZiU (D:=fun j=>decide (j<0)) fun j=>by simp];exact R.fr
  ·rw [Zk9 (D:=fun j=>decide (j<0)) fun j=>by simp];exact R.rep
  ·left
   rcases Nat.lt_or_ge k st.hp.length with q | q
   ·exact q
   ·exact absurd (R.new k q) hk
 | true=>
  simp only [Zes,cond_true] at H1
  cases he:Zi2 ops.toList 0 with
  | false=>rw [he] at H1;simp at H1
  | true=>
   cases hd:ZpO (Zsb ops.toList 0 []) ops.toList ops.toList 0 with
   | false=>rw [he,hd] at H1;simp at H1
   | true=>
    rw [he,hd] at H1
    simp only [cond_true] at H1
    obtain ⟨es,hat,hK⟩:=start _ H1
    refine wp_region_any T.names ?_
    have edges:∀(i:Nat) (o:Oper),ops[i]? = some o→∀e,e∈o.after→Region.binds .any e=true→e.on<i:=fun i o hi e hm hb=>by
     have:=Zhy ops.toList 0 he i o (by simpa using hi) e (by simpa using hm) (by rw [Zjo];exact hb)
     omega
    have hgood:=Zs4 ops.toList
    have any:∀fuel (listed:Array Bool) a' w' ι' N',listed.size=ops.size→(List.range ops.size).countP (fun j=>!listed.getD j false)≤fuel→
      (∀(i:Nat) (o:Oper),ops[i]? = some o→listed.getD i false=true→∀e,e∈o.after→Region.binds .any e=true→listed.getD e.on false=true)→
      Zui E keep ops.toList st.fr st.hp es ops.toList.length (fun j=>listed.getD j false) ι N w a.defers ι' N' a' w'→wpAny E.P .any ops Q fuel listed a' w':=by
     intro fuel
     induction fuel with
     | zero=>
      intro listed a' w' ι' N' hs hc hdn I
      have hall:∀j,j<ops.toList.length→listed.getD j false=true:=fun j hj=>by
       have h0:(List.range ops.size).countP (fun j=>!listed.getD j false)=0:=by omega
       have:=List.countP_eq_zero.1 h0 j (by simpa using hj)
       simpa using this
      refine ⟨?_,fin hat hK _ ι' N' a' w' I hall⟩
      apply List.eq_nil_iff_forall_not_mem.2
      intro j hj
      obtain ⟨h1,o,h2,_⟩:=mem_ready.1 hj
      have hjs:j<ops.size:=(Array.getElem?_eq_some_iff.1 h2).1
      have:=hall j (by simpa using hjs)
      have hjl:j<listed.size:=by omega
      simp [hjl] at h1 this
      rw [h1] at this;cases this
     | succ fuel ih=>
      intro listed a' w' ι' N' hs hc hdn I
      have eqD:∀j,j<ops.size→listed.getD j true=listed.getD j false:=fun j hj=>by
       have hjl:j<listed.size:=by omega
       simp [hjl]
      refine ⟨fun hr=>?_,fun i hi=>?_⟩
      ·refine fin hat hK _ ι' N' a' w' I fun j hj=>?_
       induction j using Nat.strongRecOn with
       | _ j ihj=>
        cases hdj:listed.getD j false with
        | true=>rfl
        | false=>
         exfalso
         have hjs:j<ops.size:=by simpa using hj
         have hjo:=Array.getElem?_eq_getElem hjs
         have:j∈Region.ready .any ops listed:=mem_ready.2 ⟨by rw [eqD j hjs];exact hdj,ops[j],hjo,fun e hm hb=>ihj e.on (edges j _ hjo e hm hb) (by have:=edges j _ hjo e hm hb;omega)⟩
         rw [hr] at this;cases this
      ·obtain ⟨h1,o,h2,h3⟩:=mem_ready.1 hi
       have his:i<ops.size:=(Array.getElem?_eq_some_iff.1 h2).1
       have hDi:listed.getD i false=false:=by rw [←eqD i his];exact h1
       have closed:∀q,listed.getD q false=true→∀j,Nat.testBit (Zla (Zsb ops.toList 0 []) q) j=true→listed.getD j false=true:=fun q=>by
        induction q using Nat.strongRecOn with
        | _ q ihq=>
         intro hq j hj
         obtain ⟨_,o',e,k1,k2,k3,k4,k5⟩:=hgood q j hj
         have hon:=hdn q o' (by simpa using k1) hq e (by simpa using k2) (by rw [←Zjo];exact k3)
         rcases k5 with rfl | k5
         ·exact hon
         ·exact ihq e.on k4 hon j k5
       have mine:∀j,Nat.testBit (Zla (Zsb ops.toList 0 []) i) j=true→listed.getD j false=true:=fun j hj=>by
        obtain ⟨_,o',e,k1,k2,k3,k4,k5⟩:=hgood i j hj
        have ho':o'=o:=by
         have:ops[i]? = some o':=by simpa using k1
         rw [h2] at this;cases this;rfl
        subst ho'
        have hon:=h3 e (by simpa using k2) (by rw [←Zjo];exact k3)
        rcases k5 with rfl | k5
        ·exact hon
        ·exact closed e.on hon j k5
       have no:∀{b:Bool},(b=true→False)→b=false:=fun {b} h=>by cases b<;>simp_all
       have getIns:(fun j=>(listed.setIfInBounds i true).getD j false)=ins (fun j=>listed.getD j false) i:=by
        funext j
        simp only [ins]
        by_cases e:j=i
        ·subst e
         have hjl:j<listed.size:=by omega
         simp [hjl]
        ·rw [if_neg e,getD_set_ne false (Ne.symm e)]
       refine Zqo (all:=ops.toList) T hH rfl hat (fun _=>hd) (by simpa using h2) hDi (fun j hj hdj=>⟨rfl,ZfJ.2 ⟨by omega,no fun h=>?_,no fun h=>?_⟩⟩)
        (fun j hj hdj=>⟨rfl,ZfJ.2 ⟨by omega,no fun h=>?_,no fun h=>?_⟩⟩) R.kp I fun ι2 N2 a2 w2 I2=>?_
       ·have:=mine j h;rw [hdj] at this;cases this
       ·have:=(hgood j i h).1;omega
       ·have:=(hgood i j h).1;omega
       ·have:=closed j hdj i h;rw [hDi] at this;cases this
       ·refine ih _ a2 w2 ι2 N2 (by simpa using hs) ?_ (fun i' o' hi' hl e hm hb=>?_) (by rw [getIns];exact I2)
        ·have:=Zkn (D:=fun j=>listed.getD j false) hDi (List.range ops.size) (by simpa using his)
         rw [←getIns] at this
         dsimp only at this
         omega
        ·by_cases ei:i'=i
         ·subst ei
          rw [h2] at hi';cases hi'
          exact getD_set_true (h3 e hm hb)
         ·rw [getD_set_ne false (Ne.symm ei)] at hl
          exact getD_set_true (hdn i' o' hi' hl e hm hb)
    have hrep0:(Array.replicate ops.size false).size=ops.size:=by simp
    have get0:(fun j=>(Array.replicate ops.size false).getD j false)=fun _=>false:=by
     funext j
     rcases Nat.lt_or_ge j ops.size with q | q
     ·simp [q]
     ·simp [q]
    refine any ops.size _ a { w with drawn:=w.drawn+1 } ι N hrep0 (Nat.le_trans List.countP_le_length (by simp)) (fun i o hi hl=>?_) ?_
    ·have:=congrFun get0 i
     rw [this] at hl;cases hl
    ·rw [get0]
     refine ⟨?_,?_,fun k hk=>?_,⟨fun _ _=>rfl,fun _ h=>h,fun _ _=>rfl,fun _ h=>.inl h⟩,rfl⟩
     ·rw [ZiU (D:=fun _=>false) fun j=>rfl]
      exact VRL.mono (Zb1.world (w:=w) (w':={ w with drawn:=w.drawn+1 }) fun _ _=>rfl) _ _ R.fr
     ·rw [Zk9 (D:=fun _=>false) fun j=>rfl];exact R.rep.drew
     ·left
      rcases Nat.lt_or_ge k st.hp.length with q | q
      ·exact q
      ·exact absurd (R.new k q) hk
end
end Ev
end
section
namespace Ev
open Go
theorem Ze1:∀(n j:Nat),Zdm (ZjE n) j=if j<n then some j else none
 | 0,j=>by simp [ZjE,Zdm]
 | n+1,j=>by
  simp only [ZjE,Zdm]
  cases hb:Nat.beq n j with
  | true=>have:=Nat.eq_of_beq_eq_true hb;subst this;simp
  | false=>
   have hne:n≠j:=fun e=>by subst e;simp at hb
   simp only [cond_false]
   rw [Ze1 n j]
   by_cases h:j<n
   ·rw [if_pos h,if_pos (by omega)]
   ·rw [if_neg h,if_neg (by omega)]
theorem Zhl:∀(n i:Nat),i<n→Zfc (ZjE n) i=true
 | 0,i,h=>by omega
 | n+1,i,h=>by
  simp only [ZjE,Zfc]
  by_cases e:n=i
  ·subst e;simp
  ·rw [Zhl n i (by omega)]
   cases Nat.beq n i<;>rfl
section
variable {E:Env} {keep:Nat} {ι:Nat→Option Value} {N:Nat→Prop} {w:World} {hp:Zgm}
theorem mok0 (h:Nat→Ob) (keep n:Nat):MOk h n ⟨ZjE keep,[],n,[],[]⟩:=by
 refine ⟨fun j j' i e e'=>?_,fun j i e=>?_,fun x hx=>by simp at hx,fun i hi=>by simp at hi,Nat.le_refl _⟩
 ·simp only [Ze1] at e e'
  split at e<;>split at e'<;>simp_all
 ·simp only [Ze1] at e
  split at e
  ·cases e;exact Zhl _ _ (by assumption)
  ·cases e
theorem Zor (R:ZbF E ι N (Zb0 hp) w) (new:∀i,hp.length≤i→ι i=none) (kp:keep≤hp.length) {ots:List OT} {m1 m2:M}
  (x1:M.Ext ⟨ZjE keep,[],Zax hp,[],[]⟩ m1) (o1:MOk (Zb0 hp) (Zax hp) m1) (h2:OT.mts (Zb0 hp) (Zmq ots) ots 0 m1=some m2) (hok:m2.ok (Zax ots)=true) :
  m1.Ext m2∧Img E ι N (Zb0 hp) w m2 (Zls ι m2.add) (Zjv ι m2) (Zos ι N m2)∧∃n2,m2.ds=n2.reverse++m1.ds∧
   ZbF E (Zjv ι m2) (Zos ι N m2) (Zb0 (OT.insts (fun j=>j) ots n2)) w∧(∀i,ots.length≤i→Zjv ι m2 i=none)∧ZjI E keep ι N w (Zjv ι m2) (Zos ι N m2) w∧keep≤ots.length:=by
 have b:=OT.mts_both (nid0:=Zax hp) _ _ _ _ h2
 have o2:=b.2 o1
 have fresh:∀k,k∈ZaI m2.add→ι k=none:=fun k hk=>by
  obtain ⟨o,ho⟩:=ZeI.1 hk
  have:=(o2.add _ ho).2.1
  rw [ZaX] at this
  exact new k this
 unfold M.ok at hok
 simp only [Bool.and_eq_true] at hok
 have hrng:∀j i,Zdm m2.ren j=some i→j<ots.length:=fun j i e=>by have:=(ZgC hok.2 j i e).1;rwa [ZaX] at this
 have keepRen:∀j,j<keep→Zdm m2.ren j=some j:=fun j hj=>b.1.ren j j (x1.ren j j (by rw [Ze1,if_pos hj]))
 obtain ⟨n2,d2,r2⟩:=Zis R o2 fresh hok.1 _ _ _ _ h2 (.refl _) o1
 refine ⟨b.1,img R o2 fresh,n2,d2,Zrn R o2 fresh hok.1 fun k hk=>?_,fun i hi=>?_,⟨fun i hi=>?_,fun b hb=>.inl hb,fun _ _=>rfl,fun b hb=>?_⟩,?_⟩
 ·have:=(r2 []).2 k (by simpa using hk)
  simpa using this
 ·cases e:Zdm m2.ren i with
  | none=>simp [Zjv,e]
  | some q=>have:=hrng i q e;omega
 ·simp only [Zjv,keepRen i hi,Option.bind_some,Zls]
  rw [if_neg]
  intro hm
  obtain ⟨o,ho⟩:=ZeI.1 hm
  have:=(o2.add _ ho).2.1
  rw [ZaX] at this;dsimp only at this;omega
 ·rcases hb with hb | ⟨i,u,h1,h3,h4⟩
  ·exact .inl hb
  ·obtain ⟨t,xs,hx⟩:=o2.frz i h1
   exact .inr (R.blk_lt (by rw [hx];simp) h3 h4).1.2
 ·rcases Nat.eq_zero_or_pos keep with h | h
  ·omega
  ·have:=hrng (keep-1) (keep-1) (keepRen _ (by omega));omega
theorem Zhi {α:Type} {l:List α} {i:Nat} {v:α} (h:l[i]? = some v):l.set i v=l:=by
 obtain ⟨hi,rfl⟩:=List.getElem?_eq_some_iff.1 h
 simp
theorem Zkd {h:Nat→Ob} {mf:M} {ι2 ι':Nat→Option Value} {N':Nat→Prop} {ots:Nat→OT} (I:Img E ι N h w mf ι2 ι' N') {fr:List AV} {vs:List Value} (hv:VRL ι N w fr vs) :
  ∀(slots:List (Nat×Tp)) (m m':M),Ztk h ots fr slots m=some m'→m'.Ext mf→∃new,m'.ds=new.reverse++m.ds∧∀rest fr0,VRL ι' N' w fr0 vs→
   ∃fr1,Zop slots (new++rest) fr0=(fr1,rest)∧VRL ι' N' w fr1 vs
 | [],m,m',H,X=>by simp only [Ztk,Option.some.injEq] at H;subst H;exact ⟨[],rfl,fun rest fr0 h0=>⟨fr0,rfl,h0⟩⟩
 | (i,t)::r,m,m',H,X=>by
  simp only [Ztk] at H
  split at H
  ·rename_i m1 hm1
   have X1:=(ZiT (nid0:=0) r m1 m' H).1
   obtain ⟨n2,d2,r2⟩:=Zkd I hv r m1 m' H X
   have put:∃n1 av,m1.ds=n1.reverse++m.ds∧(∀rest,Tp.inst (fun j=>j) t (n1++rest)=(av,rest))∧∀fr0,VRL ι' N' w fr0 vs→VRL ι' N' w (ZlJ fr0 i av) vs:=by
    rcases Nat.lt_or_ge i fr.length with q | q
    ·obtain ⟨v,hvi,hr⟩:=hv.get i fr[i] (List.getElem?_eq_getElem q)
     have hg:ZcA fr i=fr[i]:=by rw [Zcv];simp [List.getElem?_eq_getElem q]
     rw [hg] at hm1
     obtain ⟨_,n1,av,d1,i1,r1⟩:=ZhS I t _ m m1 v hm1 (X1.trans X) hr
     refine ⟨n1,av,d1,i1,fun fr0 h0=>?_⟩
     rw [Zcz]
     have:=h0.set i av v r1
     rwa [Zhi hvi] at this
    ·have hg:ZcA fr i=.undef:=by rw [Zcv];simp [List.getElem?_eq_none q]
     rw [hg] at hm1
     obtain ⟨_,n1,av,d1,i1,r1⟩:=ZhS I t _ m m1 default hm1 (X1.trans X) (by simp only [VR])
     refine ⟨n1,av,d1,i1,fun fr0 h0=>?_⟩
     rw [Zcz,List.set_eq_of_length_le]
     ·exact h0
     ·rw [h0.len,←hv.len];exact q
   obtain ⟨n1,av,d1,i1,p1⟩:=put
   refine ⟨n1++n2,by rw [d2,d1];simp,fun rest fr0 h0=>?_⟩
   obtain ⟨fr1,e1,e2⟩:=r2 rest (ZlJ fr0 i av) (p1 fr0 h0)
   refine ⟨fr1,?_,e2⟩
   simp only [Zop,List.append_assoc,i1]
   exact e1
  ·cases H
theorem Zg4 {ι:Nat→Option Value} {N:Nat→Prop} {w:World}:∀(n:Nat) (vs:List Value),vs.length=n→VRL ι N w (Zjm n) vs
 | 0,[],_=>by simp [Zjm,VRL]
 | n+1,v::vs,h=>by simp only [Zjm,VRL,VR];exact ⟨trivial,Zg4 n vs (by simpa using h)⟩
 | 0,_::_,h=>by simp at h
 | n+1,[],h=>by simp at h
theorem Ze0 {sh:Sh} {st:St} {d:Den sh.ds} (H:sh.of keep st=some d) {a:Act} (R:Zgl E keep ι N st a w) {n:Nat} (hn:n=st.fr.length) :
  ∃ι' N',Zgl E keep ι' N' (sh.st n d) a w∧ZjI E keep ι N w ι' N' w∧(sh.st n d).fr.length=n:=by
 unfold Sh.of at H
 split at H
 ·rename_i m1 hm1
  split at H
  ·rename_i m2 hm2
   cases hok:m2.ok (Zax sh.hp) with
   | false=>rw [hok] at H;simp at H
   | true=>
    rw [hok] at H;simp only [cond_true] at H
    have b:=ZiT (nid0:=Zax st.hp) _ _ _ hm1
    obtain ⟨X,I,n2,d2,R2,new2,G,kp⟩:=Zor R.rep R.new R.kp b.1 (b.2 (mok0 _ _ _)) hm2 hok
    obtain ⟨n1,d1,r1⟩:=Zkd I R.fr _ _ _ hm1 X
    have hds:Den.list sh.ds d=n1++n2:=by rw [Den.of_list H,ZgA,d2,d1];simp
    obtain ⟨fr1,e1,e2⟩:=r1 n2 (Zjm n) (Zg4 n _ (by rw [hn,R.fr.len]))
    have hst:sh.st n d=⟨fr1,OT.insts (fun j=>j) sh.hp n2⟩:=by
     unfold Sh.st
     rw [hds,e1]
    refine ⟨_,_,⟨by rw [hst];exact e2,by rw [hst];exact R2,fun i hi=>new2 i ?_,?_⟩,G,by rw [hst];dsimp only;rw [e2.len,←R.fr.len,hn]⟩
    ·rw [hst] at hi;dsimp only at hi;rwa [ZgG] at hi
    ·rw [hst];dsimp only;rw [ZgG];exact kp
  ·cases H
 ·cases H
theorem ZqE {o:Out} {v:AV} {d:Den o.ds} (H:o.of keep v hp=some d) (R:ZbF E ι N (Zb0 hp) w) (new:∀i,hp.length≤i→ι i=none) (kp:keep≤hp.length) {val:Value} (hv:VR ι N w v val) :
  ∃ι' N' v' l',o.res.inst (fun j=>j) (Den.list o.ds d)=(v',l')∧VR ι' N' w v' val∧ZbF E ι' N' (Zb0 (OT.insts (fun j=>j) o.hp l')) w∧(∀i,o.hp.length≤i→ι' i=none)∧ZjI E keep ι N w ι' N' w:=by
 unfold Out.of at H
 split at H
 ·rename_i m1 hm1
  split at H
  ·rename_i m2 hm2
   cases hok:m2.ok (Zax o.hp) with
   | false=>rw [hok] at H;simp at H
   | true=>
    rw [hok] at H;simp only [cond_true] at H
    have x1:=ZqQ _ _ _ _ hm1
    have o1:=ZtG (nid0:=Zax hp) _ _ _ _ hm1 (mok0 _ _ _)
    obtain ⟨X,I,n2,d2,R2,new2,G,kp⟩:=Zor R new kp x1 o1 hm2 hok
    obtain ⟨_,n1,av,d1,i1,r1⟩:=ZhS I _ _ _ _ val hm1 X hv
    have hds:Den.list o.ds d=n1++n2:=by rw [Den.of_list H,ZgA,d2,d1];simp
    exact ⟨_,_,av,n2,by rw [hds];exact i1 n2,r1,R2,new2,G⟩
  ·cases H
 ·cases H
theorem Zhp {ι:Nat→Option Value} {N:Nat→Prop} {w:World} {fr:List AV} {vs:List Value} (hv:VRL ι N w fr vs):∀(outs:List (Nat×Tp)) (l dats:List Dat),Zfd fr outs l=some dats→
  ∃new,dats=l.reverse++new∧∀fr0,VRL ι N w fr0 vs→VRL ι N w (ZdZ fr0 outs new) vs
 | [],l,dats,H=>by
  simp only [Zfd,Option.some.injEq] at H
  exact ⟨[],by rw [←H,ZgA],fun fr0 h0=>by simp only [ZdZ];exact h0⟩
 | (i,t)::r,l,dats,H=>by
  have put:∀(av:AV) (x:Dat),ZcA fr i=av→x.av=av→av≠.undef→Zfd fr r (x::l)=some dats→∃new,dats=l.reverse++new∧∀fr0,VRL ι N w fr0 vs→VRL ι N w (ZdZ fr0 ((i,t)::r) new) vs:=by
   intro av x hg hx hu H
   obtain ⟨new,e,h⟩:=Zhp hv r (x::l) dats H
   refine ⟨x::new,by rw [e];simp,fun fr0 h0=>?_⟩
   simp only [ZdZ]
   refine h _ ?_
   rw [hx,Zcz]
   rcases Nat.lt_or_ge i fr.length with q | q
   ·obtain ⟨v,hvi,hr⟩:=hv.get i fr[i] (List.getElem?_eq_getElem q)
    have:fr[i]=av:=by rw [←hg,Zcv];simp [List.getElem?_eq_getElem q]
    rw [this] at hr
    have:=h0.set i av v hr
    rwa [Zhi hvi] at this
   ·rw [Zcv] at hg
    simp [List.getElem?_eq_none q] at hg
    exact absurd hg.symm hu
  simp only [Zfd] at H
  split at H
  ·rename_i k k' n hg
   split at H
   ·rename_i e;subst e;exact put _ _ hg rfl (by simp) H
   ·cases H
  ·rename_i b hg;exact put _ _ hg rfl (by simp) H
  ·rename_i b hg;exact put _ _ hg rfl (by simp) H
  ·cases H
theorem ZhD (t:Nat):∀(ops:List Oper) (fr:List AV),ZcA (ZdU ops fr) t=.undef∨(ZcA (ZdU ops fr) t=ZcA fr t∧∀k,ZcB ops k≠some t)
 | [],fr=>.inr ⟨rfl,fun k=>by cases k<;>simp [ZcB]⟩
 | o::r,fr=>by
  simp only [ZdU]
  rcases ZhD t r (Zhn fr o.dst .undef) with h | ⟨h,hn⟩
  ·exact .inl h
  ·by_cases e:o.dst=some t
   ·left
    rw [h,e]
    simp only [Zhn]
    rcases Zfh fr t t with q | ⟨q,_⟩
    ·exact q
    ·exact absurd rfl q
   ·right
    rw [h,ZeN _ _ _ _ e]
    exact ⟨rfl,fun k=>by cases k with
     | zero=>exact e
     | succ k=>exact hn k⟩
theorem ZeR:∀(ops:List Oper) (fr:List AV),(ZdU ops fr).length=fr.length
 | [],fr=>rfl
 | o::r,fr=>by
  simp only [ZdU]
  rw [ZeR r]
  unfold Zhn
  split
  ·rfl
  ·rw [Zcz,List.length_set]
theorem Zij:∀(outs:List (Nat×Tp)) (l:List Dat) (fr:List AV),(ZdZ fr outs l).length=fr.length
 | [],l,fr=>by simp only [ZdZ]
 | (i,t)::r,[],fr=>by simp only [ZdZ]
 | (i,t)::r,x::l,fr=>by simp only [ZdZ];rw [Zij r,Zcz,List.length_set]
def ZoB:Ex→Exit
 | .normal=>.normal
 | .exit i=>.exit i
 | .ret=>.ret
variable {H:Hnd}
theorem Zmz (T:Zey E.P E.C) (hH:ZhH E.P E.C H):∀(c:Code) {ρ:Type} (ann:Ann) (st:St) (K:Ex→St→Option ρ) (r:ρ),ZbP E.C H keep c ann st K=some r→
  ∀(ι:Nat→Option Value) (N:Nat→Prop) (a:Act) (w:World),Zgl E keep ι N st a w→∀(Q:Exit→Act→World→Prop),
   (∀e st',K e st'=some r→st'.fr.length=st.fr.length→∀a' w' ι' N',Zgl E keep ι' N' st' a' w'→ZjI E keep ι N w ι' N' w'→a'.defers=a.defers→Q (ZoB e) a' w')→c.wp E.P Q a w:=by
 intro c
 induction c with
 | skip=>intro ρ ann st K r HK ι N a w R Q hQ;exact wp_skip (hQ .normal st (by simpa only [ZbP] using HK) rfl a w ι N R (.refl _ _ _ _ _) rfl)
 | label l=>intro ρ ann st K r HK ι N a w R Q hQ;exact wp_label (hQ .normal st (by simpa only [ZbP] using HK) rfl a w ι N R (.refl _ _ _ _ _) rfl)
 | ret=>intro ρ ann st K r HK ι N a w R Q hQ;exact wp_ret (hQ .ret st (by simpa only [ZbP] using HK) rfl a w ι N R (.refl _ _ _ _ _) rfl)
 | exit i=>intro ρ ann st K r HK ι N a w R Q hQ;exact wp_exit (hQ (.exit i) st (by simpa only [ZbP] using HK) rfl a w ι N R (.refl _ _ _ _ _) rfl)
 | region id ops draw=>
  intro ρ ann st K r HK ι N a w R Q hQ
  have plain:∀cm,Zes E.C H ops.toList draw cm st (fun fr h _=>K .normal ⟨fr,h⟩)=some r→(Code.region id ops draw).wp E.P Q a w:=fun cm h=>
   Zfl T hH h R fun fr h lg hK _ hl _ a' w' ι' N' R' G df=>hQ .normal ⟨fr,h⟩ hK hl a' w' ι' N' R' G df
  simp only [ZbP] at HK
  split at HK
  ·rename_i ds outs
   cases hr:Zes E.C H ops.toList draw [] st (fun fr _ lg=>cond (Znk lg) ((Zfd fr outs []).bind (Den.of ds)) none) with
   | none=>rw [hr] at HK;cases HK
   | some d=>
    rw [hr] at HK
    simp only [Option.bind_some] at HK
    refine Zfl T hH hr R fun fr h lg hK hq hl hsame a' w' ι' N' R' G df=>?_
    cases hqt:Znk lg with
    | false=>rw [hqt] at hK;simp at hK
    | true=>
     rw [hqt] at hK
     simp only [cond_true] at hK
     cases ho:Zfd fr outs [] with
     | none=>rw [ho] at hK;cases hK
     | some dats=>
      rw [ho] at hK
      simp only [Option.bind_some] at hK
      have hhp:=hq hqt
      subst hhp
      obtain ⟨new,e,hset⟩:=Zhp R'.fr outs [] dats ho
      have hd:=Den.of_list hK
      simp only [List.reverse_nil,List.nil_append] at e
      rw [hd,e] at HK
      refine hQ .normal _ HK (by dsimp only;rw [Zij,ZeR]) a' w' ι' N' ⟨?_,R'.rep,R'.new,R'.kp⟩ G df
      refine hset _ (VRL.of_get ?_ fun t x v hx hv=>?_)
      ·rw [ZeR,←R'.fr.len,hl]
      ·have hg:ZcA (ZdU ops.toList st.fr) t=x:=by rw [Zcv];simp [hx]
       rcases ZhD t ops.toList st.fr with h1 | ⟨h1,h2⟩
       ·rw [h1] at hg;subst hg;simp only [VR]
       ·have:=hsame t h2
        rw [hg] at h1
        rw [h1,←this,Zcv]
        have htl:t<fr.length:=by rw [R'.fr.len];exact (List.getElem?_eq_some_iff.1 hv).1
        obtain ⟨u,hu,hr⟩:=R'.fr.get t fr[t] (List.getElem?_eq_getElem htl)
        rw [hv] at hu;cases hu
        simpa [List.getElem?_eq_getElem htl] using hr
  ·exact plain _ HK
 | seq x y ihx ihy=>
  intro ρ ann st K r HK ι N a w R Q hQ
  refine wp_seq ?_
  have next:∀(ann':Ann) (st':St),st'.fr.length=st.fr.length→ZbP E.C H keep y ann' st' K=some r→∀a' w' ι' N',Zgl E keep ι' N' st' a' w'→ZjI E keep ι N w ι' N' w'→a'.defers=a.defers→y.wp E.P Q a' w':=
   fun ann' st' hl h a' w' ι' N' R' G df=>ihy ann' st' K r h ι' N' a' w' R' Q fun e st2 h2 hl2 a2 w2 ι2 N2 R2 G2 df2=>hQ e st2 h2 (hl2.trans hl) a2 w2 ι2 N2 R2 (G.trans G2) (df2.trans df)
  have viaShape:∀(sh:Sh) (ann':Ann) (d:Den sh.ds),ZbP E.C H keep y ann' (sh.st (Zax st.fr) d) K=some r→∀st',sh.of keep st'=some d→st'.fr.length=st.fr.length→∀a' w' ι' N',
    Zgl E keep ι' N' st' a' w'→ZjI E keep ι N w ι' N' w'→a'.defers=a.defers→y.wp E.P Q a' w':=fun sh ann' d h st' hd hl a' w' ι' N' R' G df=>by
   obtain ⟨ι2,N2,R2,G2,hl2⟩:=Ze0 hd R' (n:=Zax st.fr) (by rw [ZaX,hl])
   exact next ann' _ (by rw [hl2,ZaX]) h a' w' ι2 N2 R2 (G.trans G2) df
  simp only [ZbP] at HK
  split at HK
  ·rename_i sh ax ay
   cases h1:ZbP E.C H keep x (ρ:=Den sh.ds) ax st (ZkZ (sh.of keep)) with
   | none=>rw [h1] at HK;cases HK
   | some d=>
    rw [h1] at HK
    simp only [Option.bind_some] at HK
    refine ihx ax st _ d h1 ι N a w R _ fun e st' hK hl a' w' ι' N' R' G df=>?_
    cases e with
    | normal=>exact viaShape sh ay d HK st' hK hl a' w' ι' N' R' G df
    | exit i=>cases hK
    | ret=>cases hK
  ·rename_i sh ax ay
   cases h1:ZbP E.C H keep x (ρ:=Den sh.ds⊕ρ) ax st (Zf3 (sh.of keep) K) with
   | none=>rw [h1] at HK;cases HK
   | some q=>
    rw [h1] at HK
    simp only [Option.bind_some] at HK
    refine ihx ax st _ q h1 ι N a w R _ fun e st' hK hl a' w' ι' N' R' G df=>?_
    have out:∀(e:Ex),(K e st').map Sum.inr=some q→Q (ZoB e) a' w':=fun e h=>by
     cases hk:K e st' with
     | none=>rw [hk] at h;cases h
     | some r'=>
      rw [hk] at h
      simp only [Option.map_some,Option.some.injEq] at h
      subst h
      cases HK
      exact hQ e st' hk hl a' w' ι' N' R' G df
    cases e with
    | normal=>
     cases hs:sh.of keep st' with
     | none=>simp only [ZkZ,Zf3,ZjD,Zfe] at hK;rw [hs] at hK;cases hK
     | some d=>
      simp only [ZkZ,Zf3,ZjD,Zfe] at hK
      rw [hs] at hK
      simp only [Option.map_some,Option.some.injEq] at hK
      subst hK
      exact viaShape sh ay d HK st' hs hl a' w' ι' N' R' G df
    | exit i=>exact out (.exit i) hK
    | ret=>exact out .ret hK
  ·refine ihx ann.l st _ r HK ι N a w R _ fun e st' hK hl a' w' ι' N' R' G df=>?_
   cases e with
   | normal=>exact next ann.r st' hl hK a' w' ι' N' R' G df
   | exit i=>exact hQ (.exit i) st' hK hl a' w' ι' N' R' G df
   | ret=>exact hQ .ret st' hK hl a' w' ι' N' R' G df
 | cond c x y ihx ihy=>
  intro ρ ann st K r HK ι N a w R Q hQ
  simp only [ZbP] at HK
  split at HK
  ·rename_i t ht
   have hc:=R.fr.opnd (F:=st.fr) (fun t=>.inr rfl) c
   rw [ht] at hc
   simp only [VR] at hc
   refine wp_cond hc ?_
   cases t with
   | true=>exact ihx ann.l st K r HK ι N a w R Q hQ
   | false=>exact ihy ann.r st K r HK ι N a w R Q hQ
  ·cases HK
 | block i c ih=>
  intro ρ ann st K r HK ι N a w R Q hQ
  simp only [ZbP] at HK
  refine wp_block (ih ann.l st _ r HK ι N a w R _ fun e st' hK hl a' w' ι' N' R' G df=>?_)
  cases e with
  | normal=>exact hQ .normal st' hK hl a' w' ι' N' R' G df
  | ret=>exact hQ .ret st' hK hl a' w' ι' N' R' G df
  | exit j=>
   simp only [ZkZ,Zf3,ZjD,Zfe] at hK
   simp only [ZoB,Exit.inBlock]
   cases hb:Nat.beq j i with
   | true=>
    rw [hb] at hK
    have:=Nat.eq_of_beq_eq_true hb
    rw [if_pos this]
    exact hQ .normal st' hK hl a' w' ι' N' R' G df
   | false=>
    rw [hb] at hK
    have hne:j≠i:=fun e=>by subst e;simp at hb
    rw [if_neg hne]
    exact hQ (.exit j) st' hK hl a' w' ι' N' R' G df
 | loop c ih=>
  intro ρ ann st K r HK ι N a w R Q hQ
  simp only [ZbP] at HK
  have leave:∀(out:Sh) (x:Nat) (d:Den out.ds),K (.exit x) (out.st (Zax st.fr) d)=some r→∀st',out.of keep st'=some d→st'.fr.length=st.fr.length→∀a' w' ι' N',
    Zgl E keep ι' N' st' a' w'→ZjI E keep ι N w ι' N' w'→a'.defers=a.defers→Q (.exit x) a' w':=fun out x d h st' hd hl a' w' ι' N' R' G df=>by
   obtain ⟨ι2,N2,R2,G2,hl2⟩:=Ze0 hd R' (n:=Zax st.fr) (by rw [ZaX,hl])
   exact hQ (.exit x) _ h (by rw [hl2,ZaX]) a' w' ι2 N2 R2 (G.trans G2) df
  split at HK
  ·rename_i sh fuel x out an
   cases h0:sh.of keep st with
   | none=>rw [h0] at HK;cases HK
   | some d0=>
    rw [h0] at HK
    simp only [Option.bind_some] at HK
    cases h1:ZaO (σ:=Den out.ds) (fun again d=>ZbP E.C H keep c an (sh.st (Zax st.fr) d) (ZjD (sh.of keep) (out.of keep) x again)) (fuel d0) d0 with
    | none=>rw [h1] at HK;cases HK
    | some res=>
     rw [h1] at HK
     simp only [Option.bind_some] at HK
     obtain ⟨ι1,N1,R1,G1,hl1⟩:=Ze0 h0 R (n:=Zax st.fr) (ZaX _)
     refine wp_loop_ghost (fun n a' w'=>∃d ι' N',Zgl E keep ι' N' (sh.st (Zax st.fr) d) a' w'∧ZjI E keep ι N w ι' N' w'∧a'.defers=a.defers∧(sh.st (Zax st.fr) d).fr.length=Zax st.fr∧
      ZaO (σ:=Den out.ds) (fun again d=>ZbP E.C H keep c an (sh.st (Zax st.fr) d) (ZjD (sh.of keep) (out.of keep) x again)) n d=some res) (fuel d0) ⟨d0,ι1,N1,R1,G1,rfl,hl1,h1⟩ ?_
     rintro n a' w' ⟨d,ι',N',R',G',df',hl',hn⟩
     cases n with
     | zero=>cases hn
     | succ n=>
      simp only [ZaO] at hn
      refine ih an _ _ res hn ι' N' a' w' R' _ fun e st' hK hl2 a2 w2 ι2 N2 R2 G2 df2=>?_
      have hlen:st'.fr.length=st.fr.length:=by rw [hl2,hl',ZaX]
      cases e with
      | normal=>
       simp only [ZkZ,Zf3,ZjD,Zfe] at hK
       cases hs:sh.of keep st' with
       | none=>rw [hs] at hK;cases hK
       | some d'=>
        rw [hs] at hK
        simp only [Option.bind_some] at hK
        obtain ⟨ι3,N3,R3,G3,hl3⟩:=Ze0 hs R2 (n:=Zax st.fr) (by rw [ZaX,hlen])
        exact ⟨n,Nat.lt_succ_self n,d',ι3,N3,R3,(G'.trans G2).trans G3,df2.trans df',hl3,hK⟩
      | ret=>cases hK
      | exit j=>
       simp only [ZkZ,Zf3,ZjD,Zfe] at hK
       cases hb:Nat.beq j x with
       | false=>rw [hb] at hK;cases hK
       | true=>
        rw [hb] at hK
        have:=Nat.eq_of_beq_eq_true hb
        subst this
        exact leave out j res HK st' hK hlen a2 w2 ι2 N2 R2 (G'.trans G2) (df2.trans df')
  ·rename_i sh fuel x out an
   cases h0:sh.of keep st with
   | none=>rw [h0] at HK;cases HK
   | some d0=>
    rw [h0] at HK
    simp only [Option.bind_some] at HK
    cases h1:ZaO (σ:=Den out.ds⊕ρ) (fun again d=>ZbP E.C H keep c an (sh.st (Zax st.fr) d) (Zfe (sh.of keep) (out.of keep) x K again)) (fuel d0) d0 with
    | none=>rw [h1] at HK;cases HK
    | some res=>
     rw [h1] at HK
     simp only [Option.bind_some] at HK
     obtain ⟨ι1,N1,R1,G1,hl1⟩:=Ze0 h0 R (n:=Zax st.fr) (ZaX _)
     refine wp_loop_ghost (fun n a' w'=>∃d ι' N',Zgl E keep ι' N' (sh.st (Zax st.fr) d) a' w'∧ZjI E keep ι N w ι' N' w'∧a'.defers=a.defers∧(sh.st (Zax st.fr) d).fr.length=Zax st.fr∧
      ZaO (σ:=Den out.ds⊕ρ) (fun again d=>ZbP E.C H keep c an (sh.st (Zax st.fr) d) (Zfe (sh.of keep) (out.of keep) x K again)) n d=some res) (fuel d0) ⟨d0,ι1,N1,R1,G1,rfl,hl1,h1⟩ ?_
     rintro n a' w' ⟨d,ι',N',R',G',df',hl',hn⟩
     cases n with
     | zero=>cases hn
     | succ n=>
      simp only [ZaO] at hn
      refine ih an _ _ res hn ι' N' a' w' R' _ fun e st' hK hl2 a2 w2 ι2 N2 R2 G2 df2=>?_
      have hlen:st'.fr.length=st.fr.length:=by rw [hl2,hl',ZaX]
      have outK:∀(e:Ex),(K e st').map (Sum.inr (α:=Den out.ds))=some res→Q (ZoB e) a2 w2:=fun e h=>by
       cases hk:K e st' with
       | none=>rw [hk] at h;cases h
       | some r'=>
        rw [hk] at h
        simp only [Option.map_some,Option.some.injEq] at h
        subst h
        cases HK
        exact hQ e st' hk hlen a2 w2 ι2 N2 R2 (G'.trans G2) (df2.trans df')
      cases e with
      | normal=>
       simp only [ZkZ,Zf3,ZjD,Zfe] at hK
       cases hs:sh.of keep st' with
       | none=>rw [hs] at hK;cases hK
       | some d'=>
        rw [hs] at hK
        simp only [Option.bind_some] at hK
        obtain ⟨ι3,N3,R3,G3,hl3⟩:=Ze0 hs R2 (n:=Zax st.fr) (by rw [ZaX,hlen])
        exact ⟨n,Nat.lt_succ_self n,d',ι3,N3,R3,(G'.trans G2).trans G3,df2.trans df',hl3,hK⟩
      | ret=>exact outK .ret hK
      | exit j=>
       simp only [ZkZ,Zf3,ZjD,Zfe] at hK
       cases hb:Nat.beq j x with
       | false=>rw [hb] at hK;exact outK (.exit j) hK
       | true=>
        rw [hb] at hK
        have:=Nat.eq_of_beq_eq_true hb
        subst this
        simp only [cond_true] at hK
        cases hs:out.of keep st' with
        | none=>rw [hs] at hK;cases hK
        | some d'=>
         rw [hs] at hK
         simp only [Option.map_some,Option.some.injEq] at hK
         subst hK
         exact leave out j d' HK st' hs hlen a2 w2 ι2 N2 R2 (G'.trans G2) (df2.trans df')
  ·cases HK
 | _=>intro ρ ann st K r HK;simp [ZbP] at HK
end
end Ev
end
section
namespace Ev
open Go
def resM (tmps:Array Value):ResultVar→Sem Value
 | .tmp t=>pure (tmps.getD t undef)
 | .cell a t=>do loadVar t (←asAddr (tmps.getD a undef))
theorem Zo6 (fn:Func) (tmps:Array Value):results fn tmps=(do
  let vs ←fn.results.mapM (resM tmps)
  pure (if h:vs.size=1 then vs[0] else .tuple vs)):=by
 unfold results
 rfl
section
variable {E:Env} {keep:Nat} {ι:Nat→Option Value} {N:Nat→Prop} {w:World}
theorem ZgB (T:Zey E.P E.C) {st:St} {a:Act} (R:Zgl E keep ι N st a w):∀(rs:List ResultVar) (l:List AV),Zsl E.C st.fr (Zb0 st.hp) rs=some l→
  ∃vals:List Value,(rs.mapM (resM a.tmps)).run E.P w=.ok vals w∧VRL ι N w l vals
 | [],l,H=>by
  simp only [Zsl,Option.some.injEq] at H;subst H
  exact ⟨[],by simp [Sem.run_pure],by simp only [VRL]⟩
 | .tmp t::rs,l,H=>by
  simp only [Zsl] at H
  split at H
  ·rename_i l' h'
   cases H
   obtain ⟨vals,h1,h2⟩:=ZgB T R rs l' h'
   refine ⟨a.tmps.getD t undef::vals,?_,?_⟩
   ·simp only [List.mapM_cons,resM,Sem.run_bind,Sem.run_pure,Result.andThen_ok,h1]
   ·simp only [VRL]
    exact ⟨R.fr.opnd (F:=st.fr) (fun t=>.inr rfl) (.tmp t),h2⟩
  ·cases H
 | .cell p t::rs,l,H=>by
  simp only [Zsl] at H
  split at H
  ·rename_i id o hp
   split at H
   ·rename_i cs hcs
    cases hot:(E.C.ty t).d.isOther with
    | true=>rw [hot] at H;simp at H
    | false=>
     rw [hot] at H
     simp only [cond_false] at H
     split at H
     ·rename_i v l' hpart h'
      cases H
      obtain ⟨vals,h1,h2⟩:=ZgB T R rs l' h'
      have hv:=R.fr.opnd (F:=st.fr) (fun t=>.inr rfl) (.tmp p)
      simp only [Ev.opnd,hp,VR,Act.eval] at hv
      obtain ⟨b,q,e1,e2⟩:=hv
      obtain ⟨u,hu,hob⟩:=R.rep.ob id (by rw [hcs];simp)
      rw [e1] at hu;cases hu
      rw [hcs] at hob
      obtain ⟨b',q',c,T0,e3,_,hheap,hcells⟩:=hob
      cases e3
      obtain ⟨x,hrun,hx⟩:=ZcD T hheap hcells hpart hot
      refine ⟨x::vals,?_,?_⟩
      ·have hl:(loadVar t ⟨b,q+o,none⟩).run E.P w=.ok x w:=by
        have:=hrun
        simpa [Instr.loadAt,Instr.sureAddr,Sem.run_bind,Sem.run_pure] using this
       simp only [List.mapM_cons,resM,Sem.run_bind,e2,asAddr,Sem.run_pure,Result.andThen_ok,hl,h1]
      ·simp only [VRL]
       exact ⟨Zio (fun _ _ x=>x) hx,h2⟩
     ·cases H
   ·cases H
  ·cases H
theorem ZkP (T:Zey E.P E.C) {st:St} {a:Act} (R:Zgl E keep ι N st a w) {fn:Func} {l:List AV} (H:Zsl E.C st.fr (Zb0 st.hp) fn.results.toList=some l) :
  ∃val,(results fn a.tmps).run E.P w=.ok val w∧VR ι N w (resV l) val:=by
 obtain ⟨vals,h1,h2⟩:=ZgB T R _ _ H
 refine ⟨if h:vals.toArray.size=1 then vals.toArray[0] else .tuple vals.toArray,?_,?_⟩
 ·skip
  rw [Zo6,Array.mapM_eq_mapM_toList]
  simp only [List.toList_toArray,Sem.run_bind]
  have:∀(s:Sem (List Value)),s.run E.P w=.ok vals w→(List.toArray <$> s).run E.P w=.ok vals.toArray w:=fun s hs=>by
   rw [←bind_pure_comp,Sem.run_bind,hs];rfl
  rw [this _ h1]
  rfl
 ·have hl:=h2.len
  unfold resV
  split
  ·rename_i x
   cases vals with
   | nil=>simp at hl
   | cons v vs=>
    cases vs with
    | nil=>simp only [VRL] at h2;simpa using h2.1
    | cons _ _=>simp at hl
  ·rename_i hne
   have:¬vals.toArray.size=1:=by
    intro h
    have hlen:l.length=1:=by rw [hl];simpa using h
    obtain ⟨x,hx⟩:=List.length_eq_one_iff.1 hlen
    exact hne x hx
   rw [dif_neg this]
   simp only [VR]
   exact ⟨vals.toArray,rfl,by simpa using h2⟩
end
theorem Zjf {P:Program} {C:Ctx} {H:Hnd} {f:Nat} {fn:Func} {ann:Ann} {S:Zbb} (T:Zey P C) (hH:ZhH P C H) (hf:P.funcs[f]? = some fn)
  (hb:fn.body.isNone=false) (hwf:S.wf=true) (d:Den S.ids) (r:Den S.out.ds) (hF:ZbT C H fn ann S d=some r) (E:Env) (eP:E.P=P) (eC:E.C=C) (ι:Nat→Option Value) (N:Nat→Prop) (w:World) (vs:Array Value)
  (args:List AV) (l:List Dat) (hinsts:Tp.insts (fun j=>j) S.args (Den.list S.ids d)=(args,l)) (hv:VRL ι N w args vs.toList) (R:ZbF E ι N (Zb0 (OT.insts (fun j=>j) S.ihp l)) w)
  (new:∀i,S.ihp.length≤i→ι i=none) :
  Calls P f vs w fun e w'=>∃val,e=.returned val∧∃ι' N' v l',S.out.res.inst (fun j=>j) (Den.list S.out.ds r)=(v,l')∧VR ι' N' w' v val∧
   ZbF E ι' N' (Zb0 (OT.insts (fun j=>j) S.out.hp l')) w'∧(∀i,S.out.hp.length≤i→ι' i=none)∧ZjI E S.keep ι N w ι' N' w':=by
 subst eP eC
 unfold ZbT at hF
 cases hbody:fn.body with
 | none=>rw [hbody] at hb;cases hb
 | some c=>
  rw [hbody] at hF
  simp only [hinsts] at hF
  refine calls_of_wp hf hbody ?_
  have hkeep:S.keep≤S.ihp.length:=by
   simp only [Zbb.wf,Bool.and_eq_true] at hwf
   have:=Nat.le_of_ble_eq_true hwf.1;rwa [ZaX] at this
  have hlen:args.length=vs.size:=by rw [hv.len];simp
  refine Zmz (keep:=S.keep) T hH c ann _ _ r hF ι N _ w ⟨?_,R,fun i hi=>?_,?_⟩ _ fun e st' hK hl a' w' ι' N' R' G df=>?_
  ·simp only [ZcL,ZaX,Array.toList_append,hlen]
   exact hv.append (Zg4 _ _ (by simp))
  ·dsimp only at hi;rw [ZgG] at hi;exact new i hi
  ·dsimp only;rw [ZgG];exact hkeep
  ·have fin:∀{l:List AV},Zsl E.C st'.fr (Zb0 st'.hp) fn.results.toList=some l→S.out.of S.keep (resV l) st'.hp=some r→a'.defers=[]∧∃v,(results fn a'.tmps).run E.P w'=.ok v w'∧
     ∃val,Ending.returned v=.returned val∧∃ι' N' v l',S.out.res.inst (fun j=>j) (Den.list S.out.ds r)=(v,l')∧VR ι' N' w' v val∧
      ZbF E ι' N' (Zb0 (OT.insts (fun j=>j) S.out.hp l')) w'∧(∀i,S.out.hp.length≤i→ι' i=none)∧ZjI E S.keep ι N w ι' N' w':=fun {l} h1 h2=>by
    obtain ⟨val,hrun,hval⟩:=ZkP T R' h1
    obtain ⟨ι2,N2,v',l',e1,e2,e3,e4,e5⟩:=ZqE h2 R'.rep R'.new R'.kp hval
    exact ⟨df,val,hrun,val,rfl,ι2,N2,v',l',e1,e2,e3,e4,G.trans e5⟩
   cases e with
   | exit i=>cases hK
   | normal=>
    dsimp only at hK
    split at hK
    ·rename_i l h1;exact fin h1 hK
    ·cases hK
   | ret=>
    dsimp only at hK
    split at hK
    ·rename_i l h1;exact fin h1 hK
    ·cases hK
theorem Zac {P:Program} {C:Ctx} {H:Hnd} {f:Nat} {fn:Func} {ann:Ann} {S:Zbb} (T:Zey P C) (hH:ZhH P C H) (hf:P.funcs[f]? = some fn) (hname:(fn.name == "runtime.NumGoroutine")=false)
  (hb:fn.body.isNone=false) (hwf:S.wf=true) (hev:∀d,ZbT C H fn ann S d=S.F d):Zak P C f S:=
 ⟨hwf,fun d r hF E eP eC ι N w vs args l hinsts hv R new=>OpR.of_calls hf hname hb (Zjf T hH hf hb hwf d r ((hev d).trans hF) E eP eC ι N w vs args l hinsts hv R new)⟩
theorem sE {P:Program} {C:Ctx} {H:Hnd} {f:Nat} {fn:Func} {ann:Ann} {S:Zbb} (T:Zey P C) (hev:∀d,ZbT C H fn ann S d=S.F d) (hH:ZhH P C H) (hf:P.funcs[f]? = some fn)
  (hname:(fn.name == "runtime.NumGoroutine")=false:=by kernel_rfl) (hb:fn.body.isNone=false:=by kernel_rfl) (hwf:S.wf=true:=by kernel_rfl):Zak P C f S:=Zac T hH hf hname hb hwf hev
end Ev
end

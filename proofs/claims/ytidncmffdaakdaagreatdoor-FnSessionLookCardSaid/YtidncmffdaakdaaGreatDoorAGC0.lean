/- That the evaluator says of each function what it computes, and so that the program does. Conditions: none. -/
import Derived.Test.YtidncmffdaakdaaGreatDoorProg
import Derived.WalkKit
import Derived.BigCall
import Derived.KernelRfl
import Derived.Test.YtidncmffdaakdaaGreatDoorAGP0
set_option linter.unusedVariables false
set_option linter.unusedSimpArgs false
section
namespace Ev
open Go Go.Proofs Go.Shelf Go.RowKit
set_option maxRecDepth 100000
theorem Zo2 {p:Prop} (h:p):Hid p:=h
structure ZtW (ln:Str→Str→Option (Str×Str)) (lines:List Str) (r:Str) (w:World) (zb:Nat) (k:Nat) (wr:World):Prop where
 le:k≤(lines.take 30).length
 ex:∃z out,ZsP wr zb z∧Lib.IsBuilder (Tryz.lays156_ren.t 72) (Tryz.lays156_ren.t 5) (zb+1) (zb+1) (Lib.byteCells out) wr∧Zhx ln ((lines.take 30).drop k) z out=some r
 bel:Below w.heap.size w wr
 size:zb+2≤wr.heap.size
theorem Zq5 {ln:Str→Str→Option (Str×Str)} {lines:List Str} {r:Str} {w:World} {zb:Nat} {wr:World} (h:ZtW ln lines r w zb (lines.take 30).length wr):Lib.IsBuilder (Tryz.lays156_ren.t 72) (Tryz.lays156_ren.t 5) (zb+1) (zb+1) (Lib.byteCells r) wr:=by
 obtain ⟨z,out,_,h2,h3⟩:=h.ex
 rw [List.drop_length,Zhx] at h3
 cases h3
 exact h2
theorem Zlg (B b:Nat) (l:List UInt8) (w:World) (h:Lib.IsBuilder (Tryz.lays156_ren.t 72) (Tryz.lays156_ren.t 5) B b (Lib.byteCells l) w) (hB:B≤w.heap.size) :
  Calls Tryz.prog 20 #[.pointer (some ⟨b,0,none⟩)] w fun e w'=>e=.returned (.string ⟨l.toArray⟩)∧Below B w w':=
 Any.Builder_String_any (P:=Tryz.prog) (ρ:=Tryz.lays156_ren) { Tryz.lays156 with } Tryz.Builder_Extra_156 B b l w h hB
theorem ZsU (B b:Nat) (l:List UInt8) (s:ByteArray) (w:World) (h:Lib.IsBuilder (Tryz.lays156_ren.t 72) (Tryz.lays156_ren.t 5) B b (Lib.byteCells l) w) (hl:l.length+s.size≤1099511627776) (hB:B≤w.heap.size) :
  Calls Tryz.prog 18 #[.pointer (some ⟨b,0,none⟩),.string s] w fun e w'=>e=.returned (.tuple #[.int .i64 s.size,.nilIface])∧Lib.IsBuilder (Tryz.lays156_ren.t 72) (Tryz.lays156_ren.t 5) B b (Lib.byteCells (l++s.data.toList)) w'∧Below B w w':=
 (Any.Builder_WriteString (P:=Tryz.prog) (ρ:=Tryz.lays156_ren) { Tryz.lays156 with } Tryz.Builder_Extra_156 B b (Lib.byteCells l) s w h (by rw [Lib.byteCells_length];omega) hB).mono fun e w' ⟨h1,h2,h3⟩=>by
  rw [Lib.strCells_eq,←Lib.byteCells_append] at h2
  exact ⟨h1,.inr h2,h3⟩
theorem Zvt {C:Ctx} {Fl:Den [.str,.str]→Option (Str×Str)} (hl:Zah Tryz.prog C 19 ⟨1,[.ptr 0 0,.sc .str],[.box [.sc .str]],[.str,.str],⟨[.str,.str],.sc .str,[.box [.sc .str]]⟩,Fl⟩)
  {lines:List Str} {r:Str} {N:Nat→Prop} {w:World} {zb k:Nat} {wr:World} (hN:∀b,N b→b<w.heap.size) (hG:Zhv C N w) (hzb:w.heap.size≤zb) (h:ZtW (fun s z=>Fl (s,z)) lines r w zb k wr) (hk:k<(lines.take 30).length) :
  Calls Tryz.prog 19 #[.pointer (some ⟨zb,0,none⟩),.string ⟨((lines.take 30)[k]).toArray⟩] wr fun e w1=>∃o:ByteArray,e=.returned (.string o)∧zb+1≤w1.heap.size∧
   Calls Tryz.prog 18 #[.pointer (some ⟨zb+1,0,none⟩),.string o] w1 fun e w2=>∃n:Int,e=.returned (.tuple #[.int .i64 n,.nilIface])∧ZtW (fun s z=>Fl (s,z)) lines r w zb (k+1) w2:=by
 obtain ⟨z,out,hz,hb,hgo⟩:=h.ex
 rw [List.drop_eq_getElem_cons hk,Zhx] at hgo
 obtain ⟨⟨o,z'⟩,hF,hgo⟩:=Option.bind_eq_some_iff.1 hgo
 obtain ⟨hfit,hgo⟩:=Za5 hgo
 have hfit:=Zh5 hfit
 have hLIM:LIM=1099511627776:=rfl
 dsimp only at hfit hgo
 have hmem:∀b,N b→wr.heap[b]? = w.heap[b]?:=fun b q=>h.bel.block b (hN b q)
 refine (ZzK hl Tryz.func19 (by kernel_rfl) (by kernel_rfl) hF (N:=N) (fun b q=>Nat.lt_of_lt_of_le (hN b q) h.bel.size) (hG.later (fun _ q=>q) hmem) (fun q=>by have:=hN zb q;omega) hz).mono ?_
 rintro e w1 ⟨rfl,hz1,hm1,hs1,ho1,ht1,hp1⟩
 have hsz:=h.size
 have hb1:=Zqr hb (w':=w1) (fun j hj hj2=>hm1 j hj2 (by omega))
 refine ⟨_,rfl,by omega,(ZsU (zb+1) (zb+1) out ⟨o.toArray⟩ w1 hb1 (by show out.length+o.length≤_;omega) (by omega)).mono ?_⟩
 rintro e w2 ⟨rfl,hb2,bel2⟩
 refine ⟨_,rfl,hk,⟨z',out++o,hz1.later (bel2.block zb (by omega)),by simpa using hb2,hgo⟩,?_,by have:=bel2.size;have:=bel2.size;omega⟩
 have hwr:=h.bel
 refine ⟨bel2.os.trans (ho1.trans hwr.os),bel2.tape.trans (ht1.trans hwr.tape),bel2.output.trans (hp1.trans hwr.output),by have:=hwr.size;have:=bel2.size;omega,fun j hj=>?_⟩
 rw [bel2.block j (by omega),hm1 j (by have:=hwr.size;omega) (by omega),hwr.block j hj]
theorem Zzu (w:World) (o o2:Obj):((w.alloc o).alloc o2).heap[w.heap.size]? = some o:=by
 show ((w.heap.push o).push o2)[w.heap.size]? = some o
 rw [Array.getElem?_push,if_neg (by rw [Array.size_push];omega),Array.getElem?_push,if_pos rfl]
theorem Zmu {ln:Str→Str→Option (Str×Str)} {lines:List Str} {r z0:Str} (hgo:Zhx ln (lines.take 30) z0 []=some r) {w W1:World} (b1:Below w.heap.size w W1) (T:TypeId) :
  ZtW ln lines r w W1.heap.size 0 ((W1.alloc (.cells #[.string ⟨z0.toArray⟩] T)).alloc (.cells #[.pointer none,.slice none 0 0] (Tryz.lays156_ren.t 72))):=by
 have h1:=b1.size
 have hsz:(W1.alloc (.cells #[.string ⟨z0.toArray⟩] T)).heap.size=W1.heap.size+1:=Array.size_push ..
 refine ⟨Nat.zero_le _,⟨z0,[],⟨#[.string ⟨z0.toArray⟩],T,Zzu _ _ _,rfl⟩,?_,by rw [List.drop_zero];exact hgo⟩,(b1.alloc h1 _).alloc (by rw [hsz];omega) _,?_⟩
 case refine_2=>
  show W1.heap.size+2≤((W1.heap.push _).push _).size
  rw [Array.size_push,Array.size_push];exact Nat.le_refl _
 have:=Lib.fresh_isBuilder (Tryz.lays156_ren.t 72) (Tryz.lays156_ren.t 5) (W1.alloc (.cells #[.string ⟨z0.toArray⟩] T))
 rw [hsz] at this
 exact this
set_option maxHeartbeats 2000000 in
theorem ZpM {C:Ctx} {Fz:Den [.list EFT]→Option Str} {Fl:Den [.str,.str]→Option (Str×Str)} (hz:Zah Tryz.prog C 17 ⟨0,[.sc (.list EFT)],[],[.list EFT],⟨[.str],.sc .str,[]⟩,Fz⟩)
  (hl:Zah Tryz.prog C 19 ⟨1,[.ptr 0 0,.sc .str],[.box [.sc .str]],[.str,.str],⟨[.str,.str],.sc .str,[.box [.sc .str]]⟩,Fl⟩)
  (lines:List Str) (r z0:Str) (hz0:Fz ([]:List (El EFT))=some z0) (hgo:Zhx (fun s z=>Fl (s,z)) (lines.take 30) z0 []=some r)
  {N:Nat→Prop} (w:World) (hN:∀b,N b→b<w.heap.size) (hG:Zhv C N w) (lb lo cap n:Nat) (hn:n=lines.length) (hlb:lb<w.heap.size) (hcap:n≤cap) (hmax:n≤9223372036854775807)
  (hcells:∀j (hj:j<(lines.take 30).length),w.cell? ⟨lb,lo+j,none⟩=some (.string ⟨((lines.take 30)[j]).toArray⟩)) :
  Calls Tryz.prog 9 #[.slice (some ⟨lb,lo,none⟩) n cap] w fun e w'=>e=.returned (.string ⟨r.toArray⟩)∧Below w.heap.size w w':=by
 have HP:=Zo2 (Zoz hz Tryz.func17 (by kernel_rfl) (by kernel_rfl) ([]:List (El EFT)) z0 hz0 hN hG #[.slice none 0 0] (by simp only [Den.list,Tp.insts,Tp.inst,Dat.av,VRL,VR];exact ⟨⟨none,0,rfl,.inl rfl⟩,trivial⟩))
 have HF:=Zo2 (fun (W1:World) (b1:Below w.heap.size w W1) (T:TypeId)=>Zmu hgo b1 T)
 have HN:=Zo2 (fun (zb k:Nat) (wr:World) (hzb:w.heap.size≤zb) (h:ZtW (fun s z=>Fl (s,z)) lines r w zb k wr) (hk:k<(lines.take 30).length)=>Zvt hl hN hG hzb h hk)
 have HC:=Zo2 hcells
 have HL:=Zo2 hlb
 obtain ⟨m,hm,hm30,hmn,hmm⟩:∃m,m=(lines.take 30).length∧m≤30∧m≤n∧(m:Int)=min (n:Int) 30:=⟨_,rfl,by rw [List.length_take];omega,by rw [List.length_take,hn];omega,by rw [List.length_take,hn];omega⟩
 have HM:=Zo2 hm
 clear hcells hz hl hz0 hgo hN hG hm hn hlb
 go_enter Tryz.func9,Tryz.ntmps9
 go_wp2_with (go_at_call 17;refine HP.out.mono ?_)
 rintro e W1 ⟨rfl,b1⟩
 have HR:=Zo2 (HF.out W1 b1 9)
 have HB:=Zo2 b1
 clear b1
 go_wp2
 rw [←hmm,show max (m:Int) 0=(m:Int) by omega,Int.toNat_natCast]
 clear hmm
 go_loopw [16] (fun i wr=>∃k:Nat,k≤m∧i=.int .i64 k∧ZtW (fun s z=>Fl (s,z)) lines r w W1.heap.size k wr) (fun i _=>m-(Go.RowKit.intOf i).toNat)
 case atStart=>exact ⟨0,Nat.zero_le _,rfl,HR.out⟩
 case round=>
  obtain ⟨k,hk,rfl,hR⟩:=hrel
  have HRk:=Zo2 hR
  by_cases hkm:k<m
  ·have hk2:k<(lines.take 30).length:=by have:=HM.out;omega
   obtain ⟨x,hx⟩:∃x:ByteArray,x=⟨((lines.take 30)[k]).toArray⟩:=⟨_,rfl⟩
   have hc0:wr.cell? ⟨lb,lo+k,none⟩=some (.string x):=by rw [hx];exact (hR.bel.cell (by exact HL.out)).trans (HC.out k hk2)
   have HNk:=Zo2 (HN.out W1.heap.size k wr HB.out.size hR hk2)
   rw [←hx] at HNk
   clear hR hx
   go_wp2_with (go_at_call 19;refine HNk.out.mono ?_)
   rintro e w1 ⟨o,rfl,hs1,hw⟩
   have HW:=Zo2 hw
   clear hw
   go_wp2_with (go_at_call 18;refine HW.out.mono ?_)
   rintro e w2 ⟨q,rfl,hR2⟩
   have HR2:=Zo2 hR2
   clear hR2
   go_wp2
   go_roundw
   case rel=>exact ⟨k+1,by omega,by go_num,HR2.out⟩
   case measure=>simp [Go.RowKit.intOf];omega
  ·obtain rfl:k=m:=by omega
   have hend:ZtW (fun s z=>Fl (s,z)) lines r w W1.heap.size (lines.take 30).length wr:=HM.out ▸ hR
   have HS:=Zo2 (Zlg (W1.heap.size+1) (W1.heap.size+1) r wr (Zq5 hend) (by have:=hR.size;omega))
   have hb2:=hR.bel
   have hb1:=HB.out.size
   have HBw:=Zo2 (fun (w3:World) (b3:Below (W1.heap.size+1) wr w3)=>(show Below w.heap.size w w3 from ⟨b3.os.trans hb2.os,b3.tape.trans hb2.tape,b3.output.trans hb2.output,Nat.le_trans hb2.size b3.size,fun j hj=>(b3.block j (by omega)).trans (hb2.block j hj)⟩))
   clear hR hend hb1 hb2
   go_wp2_with (go_at_call 20;refine HS.out.mono ?_)
   rintro e w3 ⟨rfl,b3⟩
   have HB3:=Zo2 (HBw.out w3 b3)
   clear b3
   go_wp2
   go_ret
   exact ⟨rfl,HB3.out⟩
theorem ZqY {C:Ctx} {Fz:Den [.list EFT]→Option Str} (hz:Zah Tryz.prog C 17 ⟨0,[.sc (.list EFT)],[],[.list EFT],⟨[.str],.sc .str,[]⟩,Fz⟩)
  (z0:Str) (hz0:Fz ([]:List (El EFT))=some z0) {N:Nat→Prop} (w:World) (hN:∀b,N b→b<w.heap.size) (hG:Zhv C N w) (a:Option Addr) (cap:Nat) :
  Calls Tryz.prog 9 #[.slice a 0 cap] w fun e w'=>e=.returned (.string ⟨#[]⟩)∧Below w.heap.size w w':=by
 have HP:=Zo2 (Zoz hz Tryz.func17 (by kernel_rfl) (by kernel_rfl) ([]:List (El EFT)) z0 hz0 hN hG #[.slice none 0 0] (by simp only [Den.list,Tp.insts,Tp.inst,Dat.av,VRL,VR];exact ⟨⟨none,0,rfl,.inl rfl⟩,trivial⟩))
 have HF:=Zo2 (fun (W1:World) (b1:Below w.heap.size w W1) (T:TypeId)=>Zmu (ln:=fun _ _=>none) (lines:=[]) (r:=[]) (z0:=z0) rfl b1 T)
 clear hz hz0 hN hG
 have key:∀(W1:World),Below w.heap.size w W1→Calls Tryz.prog 20 #[.pointer (some ⟨W1.heap.size+1,0,none⟩)] ((W1.alloc (.cells #[.string ⟨z0.toArray⟩] 9)).alloc (.cells #[.pointer none,.slice none 0 0] (Tryz.lays156_ren.t 72))) fun e w'=>e=.returned (.string ⟨#[]⟩)∧Below w.heap.size w w':=fun W1 b1=>by
  have hR:=HF.out W1 b1 9
  have hb2:=hR.bel
  have hb1:=b1.size
  refine (Zlg (W1.heap.size+1) (W1.heap.size+1) [] _ (Zq5 hR) (by have:=hR.size;omega)).mono ?_
  rintro e w3 ⟨rfl,b3⟩
  exact ⟨rfl,b3.os.trans hb2.os,b3.tape.trans hb2.tape,b3.output.trans hb2.output,Nat.le_trans hb2.size b3.size,fun j hj=>(b3.block j (by omega)).trans (hb2.block j hj)⟩
 have HK:=Zo2 key
 clear key HF
 rcases a with _ | ad
 all_goals (
  go_enter Tryz.func9,Tryz.ntmps9
  go_wp2_with (go_at_call 17;refine HP.out.mono ?_)
  rintro e W1 ⟨rfl,b1⟩
  have HB:=Zo2 b1
  clear b1
  go_wp2
  refine wp_loop_rounds 1 ?_
  rw [rounds_succ]
  go_wp2_with (go_at_call 20;refine (HK.out W1 HB.out).mono ?_)
  rintro e w3 ⟨rfl,b3⟩
  have HB3:=Zo2 b3
  clear b3
  go_wp2
  go_ret
  exact ⟨rfl,HB3.out⟩)
theorem ZpL {C:Ctx} {Fz:Den [.list EFT]→Option Str} {Fl:Den [.str,.str]→Option (Str×Str)} (hz:Zah Tryz.prog C 17 ⟨0,[.sc (.list EFT)],[],[.list EFT],⟨[.str],.sc .str,[]⟩,Fz⟩)
  (hl:Zah Tryz.prog C 19 ⟨1,[.ptr 0 0,.sc .str],[.box [.sc .str]],[.str,.str],⟨[.str,.str],.sc .str,[.box [.sc .str]]⟩,Fl⟩) :
  Zah Tryz.prog C 9 ⟨0,[.sc (.list [.str])],[],[.list [.str]],⟨[.str],.sc .str,[]⟩,fun (lines:List Str)=>ZAl (Fz ([]:List (El EFT))) (fun s z=>Fl (s,z)) lines⟩:=by
 refine Zll Tryz.func9 (by kernel_rfl) (by kernel_rfl) rfl fun lines r hF ι N w vs hN hG hv=>?_
 obtain ⟨hfit,hF⟩:=Za5 hF
 have hfit:=Zh5 hfit
 have hLIM:LIM=1099511627776:=rfl
 obtain ⟨z0,hz0,hgo⟩:=Option.bind_eq_some_iff.1 hF
 simp only [Den.list,Tp.insts,Tp.inst,Dat.av] at hv
 obtain ⟨l⟩:=vs
 dsimp only at hv
 match l,hv with
 | [a],hv=>
  simp only [VRL,VR] at hv
  obtain ⟨⟨ad,cap,rfl,hx⟩,_⟩:=hv
  rcases hx with rfl | ⟨b,o,⟨rfl,hcap⟩,hNb,c,T,fz,hheap,hcells⟩
  ·have hr:r=[]:=by
    have:Zhx (fun s z=>Fl (s,z)) [] z0 []=some r:=hgo
    rw [Zhx] at this
    exact (Option.some.inj this).symm
   subst hr
   refine (ZqY hz z0 hz0 w hN hG ad cap).mono ?_
   rintro e w' ⟨rfl,bel⟩
   exact ⟨_,rfl,bel,by simp only [Den.list,Tp.inst,Dat.av,VR]⟩
  ·have hc:∀j (hj:j<(lines.take 30).length),w.cell? ⟨b,o+j,none⟩=some (.string ⟨((lines.take 30)[j]).toArray⟩):=fun j hj=>by
    have hjl:j<lines.length:=by rw [List.length_take] at hj;omega
    obtain ⟨v,e1,e2⟩:=hcells j lines[j] (List.getElem?_eq_getElem hjl) 0 (.str lines[j]) rfl
    simp only [VRc,VRs] at e2
    subst e2
    simp only [ZaR,Nat.mul_one,Nat.add_zero,Nat.zero_add] at e1
    rw [List.getElem_take]
    simp [World.cell?,hheap,e1]
   refine (ZpM hz hl lines r z0 hz0 hgo w hN hG b o cap lines.length rfl (hN b hNb) hcap (by omega) hc).mono ?_
   rintro e w' ⟨rfl,bel⟩
   exact ⟨_,rfl,bel,by simp only [Den.list,Tp.inst,Dat.av,VR]⟩
 | [],hv=>simp [VRL] at hv
 | _::_::_,hv=>simp [VRL] at hv
end Ev
end
section
open Go Go.Proofs
set_option maxRecDepth 100000
namespace Ev
def ZAe:List (Nat×TI):=[
 (2,⟨.int .i64,1,8,[.int .i64 0],some [.int .i64]⟩),
 (3,⟨.int .i64,1,8,[.int .i64 0],some [.int .i64]⟩),
 (4,⟨.bool,1,1,[.bool false],some [.bool]⟩),
 (5,⟨.int .u8,1,1,[.int .u8 0],some [.int .u8]⟩),
 (6,⟨.int .u8,1,1,[.int .u8 0],some [.int .u8]⟩),
 (7,⟨.struct [(0,1,false),(1,1,false),(2,1,false),(3,1,false)],4,24,[.int .i64 0,.int .i64 0,.bool false,.int .u8 0],some [.int .i64,.int .i64,.bool,.int .u8]⟩),
 (8,⟨.struct [(0,1,false),(1,1,false),(2,1,false),(3,1,false)],4,24,[.int .i64 0,.int .i64 0,.bool false,.int .u8 0],some [.int .i64,.int .i64,.bool,.int .u8]⟩),
 (9,⟨.str,1,16,[.str []],some [.str]⟩),
 (10,⟨.str,1,16,[.str []],some [.str]⟩),
 (11,⟨.str,1,16,[.str []],some [.str]⟩),
 (12,⟨.int .u64,1,8,[.int .u64 0],some [.int .u64]⟩),
 (13,⟨.struct [(0,1,false),(1,1,false)],2,24,[.str [],.int .u64 0],some [.str,.int .u64]⟩),
 (14,⟨.struct [(0,1,false),(1,1,false)],2,24,[.str [],.int .u64 0],some [.str,.int .u64]⟩),
 (15,⟨.ptr 210,1,8,[.nilp],none⟩),
 (16,⟨.ptr 213,1,8,[.nilp],none⟩),
 (17,⟨.ptr 220,1,8,[.nilp],none⟩),
 (18,⟨.struct [(0,1,false)],1,8,[.nilp],none⟩),
 (19,⟨.struct [(0,1,false)],1,8,[.nilp],none⟩),
 (21,⟨.int .i32,1,4,[.int .i32 0],some [.int .i32]⟩),
 (22,⟨.slice 5,1,24,[.nilsl],some [.ints .u8]⟩),
 (23,⟨.slice 9,1,24,[.nilsl],none⟩),
 (32,⟨.ptr 50,1,8,[.nilp],none⟩),
 (36,⟨.ptr 38,1,8,[.nilp],none⟩),
 (37,⟨.struct [(0,1,false),(1,1,false)],2,32,[.nilp,.nilsl],none⟩),
 (38,⟨.struct [(0,1,false),(1,1,false)],2,32,[.nilp,.nilsl],none⟩),
 (44,⟨.ptr 9,1,8,[.nilp],none⟩),
 (46,⟨.slice 55,1,24,[.nilsl],none⟩),
 (49,⟨.struct [(0,1,false),(1,1,false)],2,32,[.nilsl,.int .i64 0],some [.ints .u8,.int .i64]⟩),
 (50,⟨.struct [(0,1,false),(1,1,false)],2,32,[.nilsl,.int .i64 0],some [.ints .u8,.int .i64]⟩),
 (52,⟨.struct [(0,1,false),(1,1,false),(2,1,false),(3,1,false),(4,1,false),(5,1,false)],6,48,[.int .i64 0,.int .i64 0,.int .i64 0,.int .i64 0,.int .i64 0,.int .i64 0],some [.int .i64,.int .i64,.int .i64,.int .i64,.int .i64,.int .i64]⟩),
 (53,⟨.struct [(0,1,false),(1,1,false),(2,1,false),(3,1,false),(4,1,false),(5,1,false)],6,48,[.int .i64 0,.int .i64 0,.int .i64 0,.int .i64 0,.int .i64 0,.int .i64 0],some [.int .i64,.int .i64,.int .i64,.int .i64,.int .i64,.int .i64]⟩),
 (54,⟨.struct [(0,1,false),(1,6,true),(7,1,false)],8,80,[.str [],.int .i64 0,.int .i64 0,.int .i64 0,.int .i64 0,.int .i64 0,.int .i64 0,.str []],some [.str,.int .i64,.int .i64,.int .i64,.int .i64,.int .i64,.int .i64,.str]⟩),
 (55,⟨.struct [(0,1,false),(1,6,true),(7,1,false)],8,80,[.str [],.int .i64 0,.int .i64 0,.int .i64 0,.int .i64 0,.int .i64 0,.int .i64 0,.str []],some [.str,.int .i64,.int .i64,.int .i64,.int .i64,.int .i64,.int .i64,.str]⟩),
 (72,⟨.ptr 5,1,8,[.nilp],none⟩),
 (94,⟨.int .u32,1,4,[.int .u32 0],some [.int .u32]⟩),
 (98,⟨.int .u64,1,8,[.int .u64 0],some [.int .u64]⟩),
 (113,⟨.ptr 115,1,8,[.nilp],none⟩),
 (114,⟨.struct [(0,1,false),(1,1,false)],2,32,[.nilsl,.int .i64 0],some [.ints .u8,.int .i64]⟩),
 (115,⟨.struct [(0,1,false),(1,1,false)],2,32,[.nilsl,.int .i64 0],some [.ints .u8,.int .i64]⟩),
 (117,⟨.slice 3,1,24,[.nilsl],some [.ints .i64]⟩),
 (121,⟨.slice 124,1,24,[.nilsl],none⟩),
 (123,⟨.struct [(0,1,false),(1,1,false),(2,1,false)],3,24,[.int .i64 0,.int .i64 0,.int .i64 0],some [.int .i64,.int .i64,.int .i64]⟩),
 (124,⟨.struct [(0,1,false),(1,1,false),(2,1,false)],3,24,[.int .i64 0,.int .i64 0,.int .i64 0],some [.int .i64,.int .i64,.int .i64]⟩),
 (125,⟨.struct [(0,1,false),(1,1,false)],2,48,[.nilsl,.nilsl],some [.ints .i64,.ints .i64]⟩),
 (126,⟨.struct [(0,1,false),(1,1,false)],2,48,[.nilsl,.nilsl],some [.ints .i64,.ints .i64]⟩),
 (131,⟨.ptr 133,1,8,[.nilp],none⟩),
 (132,⟨.struct [(0,1,false),(1,1,false),(2,1,false)],3,32,[.str [],.int .i64 0,.bool false],some [.str,.int .i64,.bool]⟩),
 (133,⟨.struct [(0,1,false),(1,1,false),(2,1,false)],3,32,[.str [],.int .i64 0,.bool false],some [.str,.int .i64,.bool]⟩),
 (143,⟨.ptr 145,1,8,[.nilp],none⟩),
 (144,⟨.struct [(0,1,false),(1,1,false),(2,1,false)],3,40,[.nilsl,.int .i64 0,.int .i64 0],some [.ints .u8,.int .i64,.int .i64]⟩),
 (145,⟨.struct [(0,1,false),(1,1,false),(2,1,false)],3,40,[.nilsl,.int .i64 0,.int .i64 0],some [.ints .u8,.int .i64,.int .i64]⟩),
 (154,⟨.int .u64,1,8,[.int .u64 0],some [.int .u64]⟩),
 (161,⟨.map 186 3,1,8,[.undef],none⟩),
 (162,⟨.map 186 3,1,8,[.undef],none⟩),
 (179,⟨.slice 181,1,24,[.nilsl],none⟩),
 (180,⟨.struct [(0,1,false),(1,1,false)],2,32,[.int .i64 0,.nilsl],some [.int .i64,.ints .i64]⟩),
 (181,⟨.struct [(0,1,false),(1,1,false)],2,32,[.int .i64 0,.nilsl],some [.int .i64,.ints .i64]⟩),
 (185,⟨.struct [(0,1,false),(1,1,false)],2,16,[.int .i64 0,.int .i64 0],some [.int .i64,.int .i64]⟩),
 (186,⟨.struct [(0,1,false),(1,1,false)],2,16,[.int .i64 0,.int .i64 0],some [.int .i64,.int .i64]⟩),
 (187,⟨.ptr 189,1,8,[.nilp],none⟩),
 (188,⟨.struct [(0,1,false),(1,1,false),(2,1,false)],3,32,[.str [],.int .i64 0,.bool false],some [.str,.int .i64,.bool]⟩),
 (189,⟨.struct [(0,1,false),(1,1,false),(2,1,false)],3,32,[.str [],.int .i64 0,.bool false],some [.str,.int .i64,.bool]⟩),
 (193,⟨.slice 195,1,24,[.nilsl],none⟩),
 (194,⟨.struct [(0,1,false),(1,1,false),(2,1,false)],3,40,[.int .i64 0,.int .i64 0,.nilsl],some [.int .i64,.int .i64,.ints .i64]⟩),
 (195,⟨.struct [(0,1,false),(1,1,false),(2,1,false)],3,40,[.int .i64 0,.int .i64 0,.nilsl],some [.int .i64,.int .i64,.ints .i64]⟩),
 (206,⟨.struct [(0,1,false),(1,1,false)],2,2,[.int .u8 0,.int .u8 0],some [.int .u8,.int .u8]⟩),
 (207,⟨.struct [(0,1,false),(1,1,false)],2,2,[.int .u8 0,.int .u8 0],some [.int .u8,.int .u8]⟩),
 (209,⟨.struct [(0,1,false),(1,1,false),(2,1,false),(3,1,false)],4,40,[.nilp,.nilp,.nilp,.str []],none⟩),
 (210,⟨.struct [(0,1,false),(1,1,false),(2,1,false),(3,1,false)],4,40,[.nilp,.nilp,.nilp,.str []],none⟩),
 (214,⟨.int .u8,1,1,[.int .u8 0],some [.int .u8]⟩),
 (215,⟨.int .u8,1,1,[.int .u8 0],some [.int .u8]⟩),
 (217,⟨.int .i32,1,4,[.int .i32 0],some [.int .i32]⟩),
 (218,⟨.int .i32,1,4,[.int .i32 0],some [.int .i32]⟩),
 (219,⟨.struct [(0,1,false),(1,1,false),(2,1,false),(3,1,false),(4,1,false),(5,1,false),(6,1,false),(7,1,false),(8,1,false),(9,1,false),(10,1,false)],11,48,[.int .u64 0,.int .u64 0,.int .u32 0,.int .u8 0,.int .u8 0,.int .u8 0,.int .u8 0,.undef,.nilp,.int .i32 0,.int .i32 0],none⟩),
 (220,⟨.struct [(0,1,false),(1,1,false),(2,1,false),(3,1,false),(4,1,false),(5,1,false),(6,1,false),(7,1,false),(8,1,false),(9,1,false),(10,1,false)],11,48,[.int .u64 0,.int .u64 0,.int .u32 0,.int .u8 0,.int .u8 0,.int .u8 0,.int .u8 0,.undef,.nilp,.int .i32 0,.int .i32 0],none⟩)]
theorem ZyK:tisC Tryz.prog ZAe=true:=by kernel_rfl
theorem nm:Tryz.prog.follows .mixedOrders=true:=by kernel_rfl
def eqTab:List (Nat×FT):=[(186,[.int .i64,.int .i64])]
theorem Zzz:eqsC Tryz.prog eqTab=true:=by kernel_rfl
theorem ZvH:Zw6 Tryz.prog ZAe=true:=by kernel_rfl
def Zv2:List (Nat×List AV):=[(3,[.ro [.int .i64] [16,17,18,0,8,7,9,6,10,5,11,4,12,3,13,2,14,1,15]]),(0,[.ro [.str] [[102,105,110,101],[102,111,114,109],[110,111,110,101],[116,119,105,99,101],[102,117,108,108]]]),(2,[.ro [.str] [[115,116,111,114,101],[102,105,120,101,100],[111,119,110]]]),(5,[.int .u64 1,.int .u64 10,.int .u64 100,.int .u64 1000,.int .u64 10000,.int .u64 100000,.int .u64 1000000,.int .u64 10000000,.int .u64 100000000,.int .u64 1000000000,.int .u64 10000000000,.int .u64 100000000000,.int .u64 1000000000000,.int .u64 10000000000000,.int .u64 100000000000000,.int .u64 1000000000000000,.int .u64 10000000000000000,.int .u64 100000000000000000,.int .u64 1000000000000000000,.int .u64 10000000000000000000]),(1,[.int .i64 2000,.int .i64 1,.int .i64 1,.int .i64 0,.int .i64 0,.int .i64 0])]
def C0:Ctx:=⟨Zws ZAe,Zsa Zv2,eqOf eqTab⟩
theorem Za4:Zhu Tryz.prog C0:=ZAf rfl ZyK nm rfl Zzz ZvH
def Zz5:Go.Shelf.Ren:=⟨fun | 45=>77 | n=>n,fun | 22=>46 | 23=>55 | 0=>0 | 3=>3 | 4=>4 | n=>n,fun n=>n⟩
theorem ZAJ:Go.Proofs.SlLaysE0.n45 Tryz.prog Zz5:={
 mixed:=nm
 f45:=⟨Tryz.f77.name,by kernel_rfl,Tryz.func77.trans (congrArg some (by kernel_rfl))⟩
 t0:=Tryz.underlying0
 a0:=Tryz.isAgg0
 z0:=Tryz.sizeOf0
 v0:=Tryz.zeroValue0
 t3:=Tryz.underlying3
 a3:=Tryz.isAgg3
 z3:=Tryz.sizeOf3
 v3:=Tryz.zeroValue3
 t4:=Tryz.underlying4
 a4:=Tryz.isAgg4
 z4:=Tryz.sizeOf4
 v4:=Tryz.zeroValue4
 t22:=Tryz.underlying46
 a22:=Tryz.isAgg46
 z22:=Tryz.sizeOf46
 v22:=Tryz.zeroValue46 }
end Ev
end
section
open Go Go.Proofs
set_option maxRecDepth 100000
namespace Ev
set_option maxHeartbeats 1000000
def Zbx.S:ZaI:=⟨0,[.sc (.int .i64),.sc (.int .i64),.sc (.int .i64)],[],[.int .i64,.int .i64,.int .i64],⟨[.bool],.sc .bool,[]⟩,
 fun ((n,low,high):Int×Int×Int)=>Zbx n low high⟩
theorem Zbx.ev:∀d,Za2 C0 (hnd (tab [])) Tryz.f150 (.seq .u (.seq (.reg [.bool] [(6,.sc .bool)]) .u)) Zbx.S d=Zbx.S.F d:=fun _=>by kernel_rfl
theorem Zbx.sound:Zah Tryz.prog C0 150 Zbx.S:=sE Za4 Zbx.ev (Zai trivial) Tryz.func150
def Zdc.S:ZaI:=⟨0,[.sc .str],[],[.str],⟨[.bool],.sc .bool,[]⟩,
 fun (s:Str)=>Zdc s⟩
theorem Zdc.ev:∀d,Za2 C0 (hnd (tab [(150,Zbx.S)])) Tryz.f108 (.seq .u (.seq (.seq .u (.blk (.loopS ⟨[.str,.int .i64,.int .i64],[(0,.sc .str),(6,.sc (.int .i64)),(7,.sc (.int .i64))],[]⟩ (fun ((s1,t,t1):Str×Int×Int)=>(t-t1).toNat+1) 0 ⟨[.str],[(0,.sc .str)],[]⟩ (.seq .u (.seq .u (.seq (.blk (.seq .u (.seq .u (.seq (.reg [.bool] [(38,.sc .bool)]) .u)))) .u)))))) (.seq (.reg [.bool] [(2,.sc .bool)]) .u))) Zdc.S d=Zdc.S.F d:=fun _=>by kernel_rfl
theorem Zdc.sound:Zah Tryz.prog C0 108 Zdc.S:=sE Za4 Zdc.ev (Zai ⟨Zbx.sound,trivial⟩) Tryz.func108
def ZhI.S:ZaI:=⟨0,[.sc (.int .i64),.sc (.int .i64),.sc (.int .i64)],[],[.int .i64,.int .i64,.int .i64],⟨[.bool],.sc .bool,[]⟩,
 fun ((n,low,high):Int×Int×Int)=>ZhI n low high⟩
theorem ZhI.ev:∀d,Za2 C0 (hnd (tab [])) Tryz.f131 (.seq .u (.seq (.reg [.bool] [(6,.sc .bool)]) .u)) ZhI.S d=ZhI.S.F d:=fun _=>by kernel_rfl
theorem ZhI.sound:Zah Tryz.prog C0 131 ZhI.S:=sE Za4 ZhI.ev (Zai trivial) Tryz.func131
def Zdx.S:ZaI:=⟨0,[.sc .str,.sc (.int .u8),.sc (.int .i64)],[],[.str,.int .u8,.int .i64],⟨[.list [.str]],.full 0,[.arr [.str]]⟩,
 fun ((s,b,most):Str×Int×Int)=>Zdx s b most⟩
theorem Zdx.ev:∀d,Za2 C0 (hnd (tab [])) Tryz.f44 (.seq .u (.seq .u (.seq .u (.seq (.seq .u (.blk (.loop ⟨[.str,.int .u8,.int .i64,.int .i64,.int .i64,.list [.str]],[(0,.sc .str),(1,.sc (.int .u8)),(2,.sc (.int .i64)),(7,.full 0),(8,.sc (.int .i64)),(9,.sc (.int .i64))],[.arr [.str]]⟩ (fun ((s1,b1,most1,from_,i,out):Str×Int×Int×Int×Int×List Str)=>((s1.length:Int)-i).toNat+1) 0 ⟨[.str,.int .i64,.list [.str]],[(0,.sc .str),(7,.full 0),(8,.sc (.int .i64))],[.arr [.str]]⟩ (.seq (.seq (.reg [.bool] [(20,.sc .bool)]) .u) .u)))) .u)))) Zdx.S d=Zdx.S.F d:=fun _=>by kernel_rfl
theorem Zdx.sound:Zah Tryz.prog C0 44 Zdx.S:=sE Za4 Zdx.ev (Zai trivial) Tryz.func44
def Zap.S:ZaI:=⟨0,[.sc .str],[],[.str],⟨[.bool],.sc .bool,[]⟩,
 fun (s:Str)=>Zap s⟩
theorem Zap.ev:∀d,Za2 C0 (hnd (tab [(44,Zdx.S),(131,ZhI.S)])) Tryz.f92 (.seq .u (.seq .u (.seq (.seq .u (.blk (.loopS ⟨[.int .i64,.list [.str]],[(3,.full 0),(4,.sc (.int .i64))],[.arr [.str]]⟩ (fun ((i,list):Int×List Str)=>((list.length:Int)-i).toNat+1) 0 ⟨[.list [.str]],[(3,.full 0)],[.arr [.str]]⟩ (.seq .u (.seq (.blk (.seq .u (.seq (.seq .u (.blk (.loopS ⟨[.int .i64,.str,.int .i64,.list [.str]],[(3,.full 0),(4,.sc (.int .i64)),(5,.sc .str),(6,.sc (.int .i64))],[.arr [.str]]⟩ (fun ((i1,w,k,list1):Int×Str×Int×List Str)=>((w.length:Int)-k).toNat+1) 2 ⟨[.int .i64,.str,.list [.str]],[(3,.full 0),(4,.sc (.int .i64)),(5,.sc .str)],[.arr [.str]]⟩ (.seq .u (.seq (.blk (.seq (.reg [.bool] [(68,.sc .bool)]) .u)) .u))))) (.seq (.reg [.bool] [(80,.sc .bool)]) .u)))) .u))))) .u))) Zap.S d=Zap.S.F d:=fun _=>by kernel_rfl
theorem Zap.sound:Zah Tryz.prog C0 92 Zap.S:=sE Za4 Zap.ev (Zai ⟨Zdx.sound,ZhI.sound,trivial⟩) Tryz.func92
def Zdr.S:ZaI:=⟨0,[.sc .str,.sc .str],[],[.str,.str],⟨[.bool],.sc .bool,[]⟩,
 fun ((a,b):Str×Str)=>Zdr a b⟩
theorem Zdr.ev:∀d,Za2 C0 (hnd (tab [])) Tryz.f137 (.seq .u (.seq (.reg [.bool] [(4,.sc .bool)]) .u)) Zdr.S d=Zdr.S.F d:=fun _=>by kernel_rfl
theorem Zdr.sound:Zah Tryz.prog C0 137 Zdr.S:=sE Za4 Zdr.ev (Zai trivial) Tryz.func137
def ZcF.S:ZaI:=⟨0,[.sc .str,.sc .str],[],[.str,.str],⟨[.bool],.sc .bool,[]⟩,
 fun ((s,p):Str×Str)=>ZcF s p⟩
theorem ZcF.ev:∀d,Za2 C0 (hnd (tab [])) Tryz.f152 (.seq .u (.seq (.reg [.bool] [(4,.sc .bool)]) .u)) ZcF.S d=ZcF.S.F d:=fun _=>by kernel_rfl
theorem ZcF.sound:Zah Tryz.prog C0 152 ZcF.S:=sE Za4 ZcF.ev (Zai trivial) Tryz.func152
def ZcL.S:ZaI:=⟨0,[.sc .str,.sc .str],[],[.str,.str],⟨[.bool],.sc .bool,[]⟩,
 fun ((s,p):Str×Str)=>ZcL s p⟩
theorem ZcL.ev:∀d,Za2 C0 (hnd (tab [(152,ZcF.S)])) Tryz.f101 .u ZcL.S d=ZcL.S.F d:=fun _=>by kernel_rfl
theorem ZcL.sound:Zah Tryz.prog C0 101 ZcL.S:=sE Za4 ZcL.ev (Zai ⟨ZcF.sound,trivial⟩) Tryz.func101
def Zb3.S:ZaI:=ZjN
theorem Zb3.sound:Zah Tryz.prog C0 186 Zb3.S:=Zm6 Tryz.func186 (by kernel_rfl) (by kernel_rfl) (by kernel_rfl) (by kernel_rfl)
def ZdO.S:ZaI:=Zj2
theorem ZdO.sound:Zah Tryz.prog C0 205 ZdO.S:=ZnC Tryz.func205 (by kernel_rfl) (by kernel_rfl) (by kernel_rfl) (by kernel_rfl)
def Zbm.S:ZaI:=⟨0,[.sc .str,.sc (.int .u8)],[],[.str,.int .u8],⟨[.int .i64],.sc (.int .i64),[]⟩,
 fun ((s,c):Str×Int)=>Zbm s c⟩
theorem Zbm.ev:∀d,Za2 C0 (hnd (tab [(186,Zb3.S)])) Tryz.f154 .u Zbm.S d=Zbm.S.F d:=fun _=>by kernel_rfl
theorem Zbm.sound:Zah Tryz.prog C0 154 Zbm.S:=sE Za4 Zbm.ev (Zai ⟨Zb3.sound,trivial⟩) Tryz.func154
def Zdt.S:ZaI:=⟨0,[.sc .str,.cstr [47]],[],[.str],⟨[.int .i64],.sc (.int .i64),[]⟩,
 fun (s:Str)=>Zdt s⟩
theorem Zdt.ev:∀d,Za2 C0 (hnd (tab [(154,Zbm.S)])) Tryz.f104 (.seq .u (.seq .u (.seq (.blk (.seq (.reg [.bool] [(16,.sc .bool)]) .u)) .u))) Zdt.S d=Zdt.S.F d:=fun _=>by kernel_rfl
theorem Zdt.sound:Zah Tryz.prog C0 104 Zdt.S:=sE Za4 Zdt.ev (Zai ⟨Zbm.sound,trivial⟩) Tryz.func104
def Zgr.S:ZaI:=⟨0,[.sc .str,.cstr [47]],[],[.str],⟨[.int .i64],.sc (.int .i64),[]⟩,
 fun (s:Str)=>Zgr s⟩
theorem Zgr.ev:∀d,Za2 C0 (hnd (tab [(104,Zdt.S)])) Tryz.f190 .u Zgr.S d=Zgr.S.F d:=fun _=>by kernel_rfl
theorem Zgr.sound:Zah Tryz.prog C0 190 Zgr.S:=sE Za4 Zgr.ev (Zai ⟨Zdt.sound,trivial⟩) Tryz.func190
def Zg2.S:ZaI:=⟨0,[.sc .str,.cstr [47]],[],[.str],⟨[.int .i64],.sc (.int .i64),[]⟩,
 fun (s:Str)=>Zg2 s⟩
theorem Zg2.ev:∀d,Za2 C0 (hnd (tab [(205,ZdO.S)])) Tryz.f189 .u Zg2.S d=Zg2.S.F d:=fun _=>by kernel_rfl
theorem Zg2.sound:Zah Tryz.prog C0 189 Zg2.S:=sE Za4 Zg2.ev (Zai ⟨ZdO.sound,trivial⟩) Tryz.func189
def Zbj.S:ZaI:=⟨0,[.sc .str,.cstr [47],.cint .i64 0,.cint .i64 (-1)],[],[.str],⟨[.list [.str]],.sc (.list [.str]),[]⟩,
 fun (s:Str)=>Zbj s⟩
theorem Zbj.ev:∀d,Za2 C0 (hnd (tab [(189,Zg2.S),(190,Zgr.S)])) Tryz.f158 (.seq .u (.seq .u (.seq .u (.join ⟨[.str,.int .i64],[(0,.sc .str),(1,.cstr [47]),(2,.cint .i64 0),(3,.sc (.int .i64))],[]⟩ .u (.seq .u (.seq .u (.seq .u (.seq .u (.seq (.blk (.loop ⟨[.str,.int .i64,.int .i64,.list [.str]],[(0,.sc .str),(1,.cstr [47]),(2,.cint .i64 0),(3,.sc (.int .i64)),(9,.full 0),(10,.sc (.int .i64))],[.arr [.str]]⟩ (fun ((s2,n1,i,a):Str×Int×Int×List Str)=>(n1-i).toNat+1) 0 ⟨[.str,.int .i64,.list [.str]],[(0,.sc .str),(9,.full 0),(10,.sc (.int .i64))],[.arr [.str]]⟩ .u)) .u))))))))) Zbj.S d=Zbj.S.F d:=fun _=>by kernel_rfl
theorem Zbj.sound:Zah Tryz.prog C0 158 Zbj.S:=sE Za4 Zbj.ev (Zai ⟨Zg2.sound,Zgr.sound,trivial⟩) Tryz.func158
def Zgi.S:ZaI:=⟨0,[.sc .str,.cstr [47]],[],[.str],⟨[.list [.str]],.sc (.list [.str]),[]⟩,
 fun (s:Str)=>Zgi s⟩
theorem Zgi.ev:∀d,Za2 C0 (hnd (tab [(158,Zbj.S)])) Tryz.f107 .u Zgi.S d=Zgi.S.F d:=fun _=>by kernel_rfl
theorem Zgi.sound:Zah Tryz.prog C0 107 Zgi.S:=sE Za4 Zgi.ev (Zai ⟨Zbj.sound,trivial⟩) Tryz.func107
def ZaN.S:ZaI:=⟨0,[.sc .str],[],[.str],⟨[.bool],.sc .bool,[]⟩,
 fun (s:Str)=>ZaN s⟩
theorem ZaN.ev:∀d,Za2 C0 (hnd (tab [(107,Zgi.S),(108,Zdc.S)])) Tryz.f73 (.seq .u (.seq .u (.seq (.seq .u (.blk (.loopS ⟨[.list [.str],.list [.str],.int .i64,.int .i64],[(3,.sc (.list [.str])),(8,.sc (.list [.str])),(9,.sc (.int .i64)),(10,.sc (.int .i64))],[]⟩ (fun ((parts,t,t1,t2):List Str×List Str×Int×Int)=>(t1-t2).toNat+1) 0 ⟨[.list [.str]],[(3,.sc (.list [.str]))],[]⟩ .u))) .u))) ZaN.S d=ZaN.S.F d:=fun _=>by kernel_rfl
theorem ZaN.sound:Zah Tryz.prog C0 73 ZaN.S:=sE Za4 ZaN.ev (Zai ⟨Zgi.sound,Zdc.sound,trivial⟩) Tryz.func73
def ZcG.S:ZaI:=⟨0,[.sc (.list [.str])],[],[.list [.str]],⟨[.bool],.sc .bool,[]⟩,
 fun (xs:List Str)=>ZcG xs⟩
theorem ZcG.ev:∀d,Za2 C0 (hnd (tab [(101,ZcL.S)])) Tryz.f59 (.seq .u (.seq (.seq .u (.blk (.loopS ⟨[.list [.str],.list [.str],.int .i64,.int .i64],[(0,.sc (.list [.str])),(7,.sc (.list [.str])),(8,.sc (.int .i64)),(9,.sc (.int .i64))],[]⟩ (fun ((names,t,t1,t2):List Str×List Str×Int×Int)=>(t1-t2).toNat+1) 0 ⟨[],[],[]⟩ (.seq .u (.seq .u (.seq (.blk (.seq .u (.seq .u (.blk (.loopS ⟨[.list [.str],.str,.list [.str],.int .i64,.int .i64,.list [.str],.int .i64,.int .i64],[(0,.sc (.list [.str])),(4,.sc .str),(7,.sc (.list [.str])),(8,.sc (.int .i64)),(9,.sc (.int .i64)),(16,.sc (.list [.str])),(17,.sc (.int .i64)),(18,.sc (.int .i64))],[]⟩ (fun ((names1,a,t3,t4,t5,t6,t7,t8):List Str×Str×List Str×Int×Int×List Str×Int×Int)=>(t7-t8).toNat+1) 2 ⟨[.list [.str],.list [.str],.int .i64,.int .i64],[(0,.sc (.list [.str])),(7,.sc (.list [.str])),(8,.sc (.int .i64)),(9,.sc (.int .i64))],[]⟩ (.seq .u (.seq .u (.seq (.blk (.seq .u (.seq (.reg [.bool] [(36,.sc .bool)]) .u))) .u)))))))) .u)))))) .u)) ZcG.S d=ZcG.S.F d:=fun _=>by kernel_rfl
theorem ZcG.sound:Zah Tryz.prog C0 59 ZcG.S:=sE Za4 ZcG.ev (Zai ⟨ZcL.sound,trivial⟩) Tryz.func59
def ZeA.S:ZaI:=⟨0,[.agg [.sc (.int .i64),.sc (.int .i64)]],[],[.int .i64,.int .i64],⟨[.bool],.sc .bool,[]⟩,
 fun ((num,bits):Int×Int)=>ZeA num bits⟩
theorem ZeA.ev:∀d,Za2 C0 (hnd (tab [(150,Zbx.S)])) Tryz.f197 (.seq .u (.seq (.reg [.bool] [(2,.sc .bool)]) .u)) ZeA.S d=ZeA.S.F d:=fun _=>by kernel_rfl
theorem ZeA.sound:Zah Tryz.prog C0 197 ZeA.S:=sE Za4 ZeA.ev (Zai ⟨Zbx.sound,trivial⟩) Tryz.func197
def Zfb.S:ZaI:=⟨1,[.ptr 0 0,.sc (.int .i64),.sc (.int .i64)],[.box [.full 1,.sc (.int .i64)],.arr [.int .u8]],[.int .i64,.int .i64,.int .i64,.list [.int .u8]],⟨[.int .i64,.list [.int .u8]],.tup [],[.box [.full 1,.sc (.int .i64)],.arr [.int .u8]]⟩,
 fun ((num,bits,many,b):Int×Int×Int×List Int)=>Zfb num bits many b⟩
theorem Zfb.ev:∀d,Za2 C0 (hnd (tab [])) Tryz.f111 (.seq .u (.blk (.loop ⟨[.int .i64,.int .i64,.int .i64,.int .i64,.list [.int .u8]],[(0,.ptr 0 0),(1,.sc (.int .i64)),(7,.sc (.int .i64)),(8,.sc (.int .i64))],[.box [.full 1,.sc (.int .i64)],.arr [.int .u8]]⟩ (fun ((num1,t,t1,o,o1):Int×Int×Int×Int×List Int)=>(t-t1).toNat+1) 0 ⟨[.int .i64,.list [.int .u8]],[],[.box [.full 1,.sc (.int .i64)],.arr [.int .u8]]⟩ (.seq .u (.seq .u (.seq (.blk (.seq .u (.join ⟨[.int .i64,.int .i64,.int .i64,.int .i64,.int .i64,.list [.int .u8]],[(0,.ptr 0 0),(1,.sc (.int .i64)),(6,.sc (.int .i64)),(7,.sc (.int .i64)),(8,.sc (.int .i64))],[.box [.full 1,.sc (.int .i64)],.arr [.int .u8]]⟩ .u .u))) .u)))))) Zfb.S d=Zfb.S.F d:=fun _=>by kernel_rfl
theorem Zfb.sound:Zah Tryz.prog C0 111 Zfb.S:=sE Za4 Zfb.ev (Zai trivial) Tryz.func111
def Zkj.S:ZaI:=⟨1,[.ptr 0 0],[.box [.full 1,.sc (.int .i64)],.arr [.int .u8]],[.int .i64,.list [.int .u8]],⟨[.int .i64,.list [.int .u8]],.tup [],[.box [.full 1,.sc (.int .i64)],.arr [.int .u8]]⟩,
 fun ((many,b):Int×List Int)=>Zkj many b⟩
theorem Zkj.ev:∀d,Za2 C0 (hnd (tab [])) Tryz.f112 .u Zkj.S d=Zkj.S.F d:=fun _=>by kernel_rfl
theorem Zkj.sound:Zah Tryz.prog C0 112 Zkj.S:=sE Za4 Zkj.ev (Zai trivial) Tryz.func112
def Zi1.S:ZaI:=⟨1,[.ptr 0 0],[.box [.sc .str,.sc (.int .i64),.sc .bool]],[.str,.int .i64,.bool],⟨[.int .i64,.str,.int .i64,.bool],.sc (.int .i64),[.box [.sc .str,.sc (.int .i64),.sc .bool]]⟩,
 fun ((s,at_,bad):Str×Int×Bool)=>Zi1 s at_ bad⟩
theorem Zi1.ev:∀d,Za2 C0 (hnd (tab [])) Tryz.f123 .u Zi1.S d=Zi1.S.F d:=fun _=>by kernel_rfl
theorem Zi1.sound:Zah Tryz.prog C0 123 Zi1.S:=sE Za4 Zi1.ev (Zai trivial) Tryz.func123
def Zfe.S:ZaI:=⟨1,[.ptr 0 0,.sc (.int .i64)],[.box [.sc .str,.sc (.int .i64),.sc .bool]],[.int .i64,.str,.int .i64,.bool],⟨[.int .i64,.str,.int .i64,.bool],.sc (.int .i64),[.box [.sc .str,.sc (.int .i64),.sc .bool]]⟩,
 fun ((bits,s,at_,bad):Int×Str×Int×Bool)=>Zfe bits s at_ bad⟩
theorem Zfe.ev:∀d,Za2 C0 (hnd (tab [(123,Zi1.S)])) Tryz.f124 (.seq .u (.seq .u (.seq (.seq .u (.blk (.loop ⟨[.int .i64,.int .i64,.int .i64,.str,.int .i64,.bool],[(0,.ptr 0 0),(5,.sc (.int .i64)),(7,.sc (.int .i64)),(8,.sc (.int .i64))],[.box [.sc .str,.sc (.int .i64),.sc .bool]]⟩ (fun ((n,t,t1,o,o1,o2):Int×Int×Int×Str×Int×Bool)=>(t-t1).toNat+1) 0 ⟨[.int .i64,.str,.int .i64,.bool],[(5,.sc (.int .i64))],[.box [.sc .str,.sc (.int .i64),.sc .bool]]⟩ .u))) .u))) Zfe.S d=Zfe.S.F d:=fun _=>by kernel_rfl
theorem Zfe.sound:Zah Tryz.prog C0 124 Zfe.S:=sE Za4 Zfe.ev (Zai ⟨Zi1.sound,trivial⟩) Tryz.func124
def Zep.S:ZaI:=⟨1,[.ptr 0 0],[.box [.sc .str,.sc (.int .i64),.sc .bool]],[.str,.int .i64,.bool],⟨[.str,.int .i64,.bool],.tup [],[.box [.sc .str,.sc (.int .i64),.sc .bool]]⟩,
 fun ((s,at_,bad):Str×Int×Bool)=>Zep s at_ bad⟩
theorem Zep.ev:∀d,Za2 C0 (hnd (tab [(123,Zi1.S)])) Tryz.f128 (.blk (.loop ⟨[.str,.int .i64,.bool],[(0,.ptr 0 0)],[.box [.sc .str,.sc (.int .i64),.sc .bool]]⟩ (fun ((o,o1,o2):Str×Int×Bool)=>9) 0 ⟨[.str,.int .i64,.bool],[],[.box [.sc .str,.sc (.int .i64),.sc .bool]]⟩ .u)) Zep.S d=Zep.S.F d:=fun _=>by kernel_rfl
theorem Zep.sound:Zah Tryz.prog C0 128 Zep.S:=sE Za4 Zep.ev (Zai ⟨Zi1.sound,trivial⟩) Tryz.func128
def ZbC.S:ZaI:=⟨0,[.sc (.int .i64),.sc (.int .i64)],[],[.int .i64,.int .i64],⟨[.int .i64],.sc (.int .i64),[]⟩,
 fun ((num,bits):Int×Int)=>ZbC num bits⟩
theorem ZbC.ev:∀d,Za2 C0 (hnd (tab [(197,ZeA.S)])) Tryz.f165 (.seq .u (.seq .u (.seq .u (.seq (.seq .u (.blk (.loop ⟨[.int .i64,.int .i64,.int .i64,.int .i64],[(0,.sc (.int .i64)),(5,.sc (.int .i64)),(12,.sc (.int .i64)),(13,.sc (.int .i64))],[]⟩ (fun ((num1,out,t,t1):Int×Int×Int×Int)=>(t-t1).toNat+1) 0 ⟨[.int .i64],[(5,.sc (.int .i64))],[]⟩ .u))) .u)))) ZbC.S d=ZbC.S.F d:=fun _=>by kernel_rfl
theorem ZbC.sound:Zah Tryz.prog C0 165 ZbC.S:=sE Za4 ZbC.ev (Zai ⟨ZeA.sound,trivial⟩) Tryz.func165
def ZaH.S:ZaI:=⟨0,[.sc (.int .u32),.sc .str],[],[.int .u32,.str],⟨[.int .u32],.sc (.int .u32),[]⟩,
 fun ((crc_,text):Int×Str)=>ZaH crc_ text⟩
theorem ZaH.ev:∀d,Za2 C0 (hnd (tab [])) Tryz.f78 (.seq .u (.seq .u (.seq (.seq .u (.blk (.loop ⟨[.int .u32,.str,.int .i64],[(0,.sc (.int .u32)),(1,.sc .str),(5,.sc (.int .i64))],[]⟩ (fun ((crc_1,text1,k):Int×Str×Int)=>((text1.length:Int)-k).toNat+1) 0 ⟨[.int .u32],[(0,.sc (.int .u32))],[]⟩ (.seq .u (.seq (.blk (.seq .u (.seq .u (.blk (.loop ⟨[.int .u32,.str,.int .i64,.int .i64],[(0,.sc (.int .u32)),(1,.sc .str),(5,.sc (.int .i64)),(20,.sc (.int .i64))],[]⟩ (fun ((crc_2,text2,k1,t):Int×Str×Int×Int)=>(8-t).toNat+1) 2 ⟨[.int .u32,.str,.int .i64],[(0,.sc (.int .u32)),(1,.sc .str),(5,.sc (.int .i64))],[]⟩ .u))))) .u))))) .u))) ZaH.S d=ZaH.S.F d:=fun _=>by kernel_rfl
theorem ZaH.sound:Zah Tryz.prog C0 78 ZaH.S:=sE Za4 ZaH.ev (Zai trivial) Tryz.func78
def crc.S:ZaI:=⟨0,[.sc .str],[],[.str],⟨[.int .i64],.sc (.int .i64),[]⟩,
 fun (text:Str)=>crc text⟩
theorem crc.ev:∀d,Za2 C0 (hnd (tab [(78,ZaH.S)])) Tryz.f37 .u crc.S d=crc.S.F d:=fun _=>by kernel_rfl
theorem crc.sound:Zah Tryz.prog C0 37 crc.S:=sE Za4 crc.ev (Zai ⟨ZaH.sound,trivial⟩) Tryz.func37
def ZcD.S:ZaI:=⟨0,[.sc .str],[],[.str],⟨[.int .i64],.sc (.int .i64),[]⟩,
 fun (text:Str)=>ZcD text⟩
theorem ZcD.ev:∀d,Za2 C0 (hnd (tab [])) Tryz.f79 (.seq .u (.seq .u (.seq (.seq .u (.blk (.loop ⟨[.str,.int .i64,.int .i64,.int .i64],[(0,.sc .str),(3,.sc (.int .i64)),(4,.sc (.int .i64)),(5,.sc (.int .i64))],[]⟩ (fun ((text1,a,b,k):Str×Int×Int×Int)=>((text1.length:Int)-k).toNat+1) 0 ⟨[.int .i64,.int .i64],[(3,.sc (.int .i64)),(4,.sc (.int .i64))],[]⟩ .u))) .u))) ZcD.S d=ZcD.S.F d:=fun _=>by kernel_rfl
theorem ZcD.sound:Zah Tryz.prog C0 79 ZcD.S:=sE Za4 ZcD.ev (Zai trivial) Tryz.func79
def Zie.S:ZaI:=⟨0,[.sc .str],[],[.str],⟨[.int .i64],.sc (.int .i64),[]⟩,
 fun (text:Str)=>Zie text⟩
theorem Zie.ev:∀d,Za2 C0 (hnd (tab [(79,ZcD.S)])) Tryz.f38 .u Zie.S d=Zie.S.F d:=fun _=>by kernel_rfl
theorem Zie.sound:Zah Tryz.prog C0 38 Zie.S:=sE Za4 Zie.ev (Zai ⟨ZcD.sound,trivial⟩) Tryz.func38
def Zcf.S:ZaI:=⟨0,[.sc (.list [.int .i64])],[],[.list [.int .i64]],⟨[.bool],.sc .bool,[]⟩,
 fun (lens:List Int)=>Zcf lens⟩
theorem Zcf.ev:∀d,Za2 C0 (hnd (tab [(150,Zbx.S)])) Tryz.f166 (.seq .u (.seq .u (.seq .u (.seq (.seq .u (.blk (.loopS ⟨[.int .i64,.int .i64,.int .i64,.list [.int .i64],.int .i64,.int .i64],[(3,.sc (.int .i64)),(4,.sc (.int .i64)),(5,.sc (.int .i64)),(11,.sc (.list [.int .i64])),(12,.sc (.int .i64)),(13,.sc (.int .i64))],[]⟩ (fun ((sum,many,last,t,t1,t2):Int×Int×Int×List Int×Int×Int)=>(t1-t2).toNat+1) 0 ⟨[.int .i64,.int .i64,.int .i64],[(3,.sc (.int .i64)),(4,.sc (.int .i64)),(5,.sc (.int .i64))],[]⟩ .u))) (.seq (.reg [.bool] [(2,.sc .bool)]) .u))))) Zcf.S d=Zcf.S.F d:=fun _=>by kernel_rfl
theorem Zcf.sound:Zah Tryz.prog C0 166 Zcf.S:=sE Za4 Zcf.ev (Zai ⟨Zbx.sound,trivial⟩) Tryz.func166
def ZcC.S:ZaI:=⟨0,[.sc (.list [.int .i64])],[],[.list [.int .i64]],⟨[.list [.int .i64]],.full 0,[.arr [.int .i64]]⟩,
 fun (lens:List Int)=>ZcC lens⟩
theorem ZcC.ev:∀d,Za2 C0 (hnd (tab [])) Tryz.f121 (.seq .u (.seq .u (.seq .u (.seq (.seq .u (.blk (.loop ⟨[.list [.int .i64],.int .i64,.int .i64,.list [.int .i64]],[(0,.sc (.list [.int .i64])),(3,.full 0),(4,.sc (.int .i64)),(5,.sc (.int .i64))],[.arr [.int .i64]]⟩ (fun ((lens1,next_,l,out):List Int×Int×Int×List Int)=>(15-l).toNat+2) 0 ⟨[.list [.int .i64]],[(3,.full 0)],[.arr [.int .i64]]⟩ (.seq .u (.seq (.blk (.seq (.seq .u (.blk (.loop ⟨[.list [.int .i64],.int .i64,.int .i64,.list [.int .i64],.int .i64,.int .i64,.list [.int .i64]],[(0,.sc (.list [.int .i64])),(3,.full 0),(4,.sc (.int .i64)),(5,.sc (.int .i64)),(15,.sc (.list [.int .i64])),(16,.sc (.int .i64)),(17,.sc (.int .i64))],[.arr [.int .i64]]⟩ (fun ((lens2,next_1,l1,t,t1,t2,out1):List Int×Int×Int×List Int×Int×Int×List Int)=>(t1-t2).toNat+1) 2 ⟨[.list [.int .i64],.int .i64,.int .i64,.list [.int .i64]],[(0,.sc (.list [.int .i64])),(3,.full 0),(4,.sc (.int .i64)),(5,.sc (.int .i64))],[.arr [.int .i64]]⟩ .u))) .u)) .u))))) .u)))) ZcC.S d=ZcC.S.F d:=fun _=>by kernel_rfl
theorem ZcC.sound:Zah Tryz.prog C0 121 ZcC.S:=sE Za4 ZcC.ev (Zai trivial) Tryz.func121
def Za3.S:ZaI:=⟨0,[.sc (.list [.int .i64,.ints .i64])],[],[.list [.int .i64,.ints .i64]],⟨[.int .i64,.list [.int .i64],.list [.int .i64,.ints .i64]],.tup [.agg [.sc (.int .i64),.sc (.list [.int .i64])],.full 0],[.arr [.int .i64,.ints .i64]]⟩,
 fun (list:List (Int×List Int))=>Za3 list⟩
theorem Za3.ev:∀d,Za2 C0 (hnd (tab [])) Tryz.f196 (.seq .u (.seq .u (.seq (.seq .u (.blk (.loop ⟨[.list [.int .i64,.ints .i64],.int .i64,.list [.int .i64,.ints .i64],.int .i64,.int .i64,.int .i64,.list [.int .i64]],[(0,.sc (.list [.int .i64,.ints .i64])),(2,.ptr 0 0),(4,.sc (.int .i64)),(8,.sc (.list [.int .i64,.ints .i64])),(9,.sc (.int .i64)),(10,.sc (.int .i64))],[.box [.sc (.int .i64),.full 1],.arr [.int .i64]]⟩ (fun ((list1,at_,t,t1,t2,o,o1):(List (Int×List Int))×Int×(List (Int×List Int))×Int×Int×Int×List Int)=>(t1-t2).toNat+1) 0 ⟨[.list [.int .i64,.ints .i64],.int .i64,.int .i64,.list [.int .i64]],[(0,.sc (.list [.int .i64,.ints .i64])),(2,.ptr 0 0),(4,.sc (.int .i64))],[.box [.sc (.int .i64),.full 1],.arr [.int .i64]]⟩ (.seq .u (.seq .u (.seq (.blk (.seq .u (.seq (.reg [.bool] [(46,.sc .bool)]) .u))) .u)))))) .u))) Za3.S d=Za3.S.F d:=fun _=>by kernel_rfl
theorem Za3.sound:Zah Tryz.prog C0 196 Za3.S:=sE Za4 Za3.ev (Zai trivial) Tryz.func196
def Zbl.S:ZaI:=⟨0,[.sc (.list [.int .i64])],[],[.list [.int .i64]],⟨[.list [.int .i64]],.full 0,[.arr [.int .i64]]⟩,
 fun (counts:List Int)=>Zbl counts⟩
theorem Zbl.ev:∀d,Za2 C0 (hnd (tab [(196,Za3.S)])) Tryz.f164 (.seq .u (.seq .u (.seq .u (.seq (.seq .u (.blk (.loop ⟨[.list [.int .i64],.int .i64,.int .i64,.list [.int .i64],.list [.int .i64,.ints .i64]],[(3,.full 0),(4,.full 1),(18,.sc (.list [.int .i64])),(19,.sc (.int .i64)),(20,.sc (.int .i64))],[.arr [.int .i64],.arr [.int .i64,.ints .i64]]⟩ (fun ((t,t1,t2,out,list):List Int×Int×Int×List Int×List (Int×List Int))=>(t1-t2).toNat+1) 0 ⟨[.list [.int .i64],.list [.int .i64,.ints .i64]],[(3,.full 0),(4,.full 1)],[.arr [.int .i64],.arr [.int .i64,.ints .i64]]⟩ .u))) (.seq .u (.seq (.blk (.loop ⟨[.list [.int .i64],.list [.int .i64,.ints .i64]],[(3,.full 0),(4,.full 1)],[.arr [.int .i64],.arr [.int .i64,.ints .i64]]⟩ (fun ((out2,list2):List Int×List (Int×List Int))=>((list2.length:Int)-1).toNat+1) 2 ⟨[.list [.int .i64]],[(3,.full 0)],[.arr [.int .i64]]⟩ (.seq .u (.blk (.seq .u (.seq .u (.seq .u (.seq (.seq .u (.blk (.loop ⟨[.int .i64,.int .i64,.list [.int .i64],.int .i64,.list [.int .i64],.int .i64,.list [.int .i64],.list [.int .i64,.ints .i64],.list [.int .i64]],[(3,.full 0),(7,.ptr 1 0),(9,.ptr 2 0),(10,.full 3),(11,.full 4),(67,.full 4),(68,.sc (.int .i64)),(69,.sc (.int .i64))],[.arr [.int .i64],.box [.sc (.int .i64),.sc (.list [.int .i64])],.box [.sc (.int .i64),.sc (.list [.int .i64])],.arr [.int .i64,.ints .i64],.arr [.int .i64]]⟩ (fun ((t3,t4,out3,o,o1,o2,o3,left,o4):Int×Int×List Int×Int×List Int×Int×List Int×(List (Int×List Int))×List Int)=>(t3-t4).toNat+1) 4 ⟨[.list [.int .i64],.int .i64,.list [.int .i64],.int .i64,.list [.int .i64],.list [.int .i64,.ints .i64],.list [.int .i64]],[(3,.full 0),(7,.ptr 1 0),(9,.ptr 2 0),(10,.full 3),(11,.full 4)],[.arr [.int .i64],.box [.sc (.int .i64),.sc (.list [.int .i64])],.box [.sc (.int .i64),.sc (.list [.int .i64])],.arr [.int .i64,.ints .i64],.arr [.int .i64]]⟩ .u))) .u)))))))) .u)))))) Zbl.S d=Zbl.S.F d:=fun _=>by kernel_rfl
theorem Zbl.sound:Zah Tryz.prog C0 164 Zbl.S:=sE Za4 Zbl.ev (Zai ⟨Za3.sound,trivial⟩) Tryz.func164
def ZaZ.S:ZaI:=⟨0,[.sc (.list [.int .i64]),.sc (.int .i64)],[],[.list [.int .i64],.int .i64],⟨[.list [.int .i64]],.full 0,[.arr [.int .i64]]⟩,
 fun ((counts,most):List Int×Int)=>ZaZ counts most⟩
theorem ZaZ.ev:∀d,Za2 C0 (hnd (tab [(150,Zbx.S),(164,Zbl.S)])) Tryz.f120 (.seq .u (.seq (.seq (.reg [.bool] [(21,.sc .bool)]) .u) (.seq .u (.seq .u (.seq (.seq .u (.blk (.loopS ⟨[.int .i64,.int .i64,.list [.int .i64],.int .i64,.int .i64,.list [.int .i64]],[(1,.sc (.int .i64)),(5,.full 0),(6,.sc (.int .i64)),(24,.sc (.list [.int .i64])),(25,.sc (.int .i64)),(26,.sc (.int .i64))],[.arr [.int .i64]]⟩ (fun ((most1,many,t,t1,t2,now):Int×Int×List Int×Int×Int×List Int)=>(t1-t2).toNat+1) 0 ⟨[.int .i64,.int .i64,.list [.int .i64]],[(1,.sc (.int .i64)),(5,.full 0),(6,.sc (.int .i64))],[.arr [.int .i64]]⟩ .u))) (.seq .u (.blk (.loopS ⟨[.int .i64,.list [.int .i64]],[(1,.sc (.int .i64)),(5,.full 0)],[.arr [.int .i64]]⟩ (fun ((most3,now2):Int×List Int)=>100000) 9999 ⟨[],[],[]⟩ (.blk (.seq .u (.seq .u (.seq (.seq .u (.blk (.loop ⟨[.int .i64,.int .i64,.int .i64,.int .i64,.list [.int .i64],.list [.int .i64]],[(1,.sc (.int .i64)),(5,.full 0),(9,.full 1),(10,.sc (.int .i64)),(52,.full 1),(53,.sc (.int .i64)),(54,.sc (.int .i64))],[.arr [.int .i64],.arr [.int .i64]]⟩ (fun ((most4,long,t3,t4,now3,o):Int×Int×Int×Int×List Int×List Int)=>(t3-t4).toNat+1) 4 ⟨[.int .i64,.int .i64,.list [.int .i64],.list [.int .i64]],[(1,.sc (.int .i64)),(5,.full 0),(9,.full 1),(10,.sc (.int .i64))],[.arr [.int .i64],.arr [.int .i64]]⟩ .u))) (.seq .u (.seq .u (.blk (.loop ⟨[.int .i64,.int .i64,.int .i64,.list [.int .i64]],[(1,.sc (.int .i64)),(5,.full 0),(67,.sc (.int .i64)),(68,.sc (.int .i64))],[.arr [.int .i64]]⟩ (fun ((most6,t5,t6,now5):Int×Int×Int×List Int)=>(t5-t6).toNat+1) 6 ⟨[.int .i64,.list [.int .i64]],[(1,.sc (.int .i64)),(5,.full 0)],[.arr [.int .i64]]⟩ .u)))))))))))))))) ZaZ.S d=ZaZ.S.F d:=fun _=>by kernel_rfl
theorem ZaZ.sound:Zah Tryz.prog C0 120 ZaZ.S:=sE Za4 ZaZ.ev (Zai ⟨Zbx.sound,Zbl.sound,trivial⟩) Tryz.func120
end Ev
end
section
open Go Go.Proofs
set_option maxRecDepth 100000
namespace Ev
set_option maxHeartbeats 1000000
def Zck.S:ZaI:=⟨0,[.sc (.list [.int .i64])],[],[.list [.int .i64]],⟨[.map [.int .i64,.int .i64] [.int .i64]],.map 0,[.map [.int .i64,.int .i64] [.int .i64]]⟩,
 fun (lens:List Int)=>Zck lens⟩
theorem Zck.ev:∀d,Za2 C0 (hnd (tab [(121,ZcC.S)])) Tryz.f167 (.seq .u (.seq .u (.seq (.seq .u (.blk (.loop ⟨[.list [.int .i64],.int .i64,.int .i64,.map [.int .i64,.int .i64] [.int .i64],.list [.int .i64]],[(0,.sc (.list [.int .i64])),(3,.map 0),(8,.full 1),(9,.sc (.int .i64)),(10,.sc (.int .i64))],[.map [.int .i64,.int .i64] [.int .i64],.arr [.int .i64]]⟩ (fun ((lens1,t,t1,o,o1):List Int×Int×Int×(List ((Int×Int)×Int))×List Int)=>(t-t1).toNat+1) 0 ⟨[.map [.int .i64,.int .i64] [.int .i64]],[(3,.map 0)],[.map [.int .i64,.int .i64] [.int .i64]]⟩ .u))) .u))) Zck.S d=Zck.S.F d:=fun _=>by kernel_rfl
theorem Zck.sound:Zah Tryz.prog C0 167 Zck.S:=sE Za4 Zck.ev (Zai ⟨ZcC.sound,trivial⟩) Tryz.func167
def Zbn.S:ZaI:=⟨2,[.ptr 0 0,.map 1],[.box [.sc .str,.sc (.int .i64),.sc .bool],.map [.int .i64,.int .i64] [.int .i64]],[.str,.int .i64,.bool,.map [.int .i64,.int .i64] [.int .i64]],⟨[.int .i64,.str,.int .i64,.bool,.map [.int .i64,.int .i64] [.int .i64]],.sc (.int .i64),[.box [.sc .str,.sc (.int .i64),.sc .bool],.map [.int .i64,.int .i64] [.int .i64]]⟩,
 fun ((s,at_,bad,book):Str×Int×Bool×List ((Int×Int)×Int))=>Zbn s at_ bad book⟩
theorem Zbn.ev:∀d,Za2 C0 (hnd (tab [(123,Zi1.S)])) Tryz.f168 (.seq .u (.seq .u (.seq (.seq .u (.blk (.loopS ⟨[.int .i64,.int .i64,.str,.int .i64,.bool,.map [.int .i64,.int .i64] [.int .i64]],[(0,.ptr 0 0),(1,.map 1),(5,.sc (.int .i64)),(6,.sc (.int .i64))],[.box [.sc .str,.sc (.int .i64),.sc .bool],.map [.int .i64,.int .i64] [.int .i64]]⟩ (fun ((code_,l,o,o1,o2,o3):Int×Int×Str×Int×Bool×List ((Int×Int)×Int))=>(15-l).toNat+2) 0 ⟨[.str,.int .i64,.bool,.map [.int .i64,.int .i64] [.int .i64]],[(0,.ptr 0 0)],[.box [.sc .str,.sc (.int .i64),.sc .bool],.map [.int .i64,.int .i64] [.int .i64]]⟩ (.seq .u (.seq (.blk (.seq .u (.seq .u (.seq (.reg [.bool] [(33,.sc .bool)]) .u)))) .u))))) .u))) Zbn.S d=Zbn.S.F d:=fun _=>by kernel_rfl
theorem Zbn.sound:Zah Tryz.prog C0 168 Zbn.S:=sE Za4 Zbn.ev (Zai ⟨Zi1.sound,trivial⟩) Tryz.func168
def add.S:ZaI:=⟨0,[.full 0,.agg [.sc (.int .i64),.sc (.int .i64),.sc (.int .i64)]],[.arr [.int .u8]],[.int .i64,.int .i64,.int .i64,.list [.int .u8]],⟨[.bool,.list [.int .u8]],.tup [.full 0,.sc .bool],[.arr [.int .u8]]⟩,
 fun ((byte,long,back,out):Int×Int×Int×List Int)=>add byte long back out⟩
theorem add.ev:∀d,Za2 C0 (hnd (tab [(150,Zbx.S)])) Tryz.f169 (.seq .u (.seq (.seq .u (.cond (.seq (.seq (.reg [.bool] [(17,.sc .bool)]) .u) .u) .u)) (.seq (.seq (.reg [.bool] [(41,.sc .bool)]) .u) (.seq (.seq .u (.blk (.loop ⟨[.int .i64,.int .i64,.list [.int .u8],.int .i64,.int .i64,.int .i64],[(0,.full 0),(3,.ptr 1 0),(43,.sc (.int .i64)),(44,.sc (.int .i64))],[.arr [.int .u8],.box [.sc (.int .i64),.sc (.int .i64),.sc (.int .i64)]]⟩ (fun ((t,t1,out1,o,o1,o2):Int×Int×List Int×Int×Int×Int)=>(t-t1).toNat+1) 0 ⟨[.list [.int .u8]],[(0,.full 0)],[.arr [.int .u8]]⟩ .u))) .u)))) add.S d=add.S.F d:=fun _=>by kernel_rfl
theorem add.sound:Zah Tryz.prog C0 169 add.S:=sE Za4 add.ev (Zai ⟨Zbx.sound,trivial⟩) Tryz.func169
def Zat.S:ZaI:=⟨0,[.sc .str],[],[.str],⟨[.list [.int .i64,.int .i64,.int .i64]],.full 0,[.arr [.int .i64,.int .i64,.int .i64]]⟩,
 fun (text:Str)=>Zat text⟩
theorem Zat.ev:∀d,Za2 C0 (hnd (tab [])) Tryz.f115 (.seq .u (.seq .u (.seq .u (.seq (.seq .u (.blk (.loop ⟨[.str,.int .i64,.list [.int .i64,.int .i64,.int .i64]],[(0,.sc .str),(3,.full 0),(4,.sc (.int .i64))],[.arr [.int .i64,.int .i64,.int .i64]]⟩ (fun ((text1,at_,out):Str×Int×List (Int×Int×Int))=>((text1.length:Int)-at_).toNat+1) 0 ⟨[.list [.int .i64,.int .i64,.int .i64]],[(3,.full 0)],[.arr [.int .i64,.int .i64,.int .i64]]⟩ (.seq .u (.blk (.seq .u (.seq (.seq .u (.blk (.loop ⟨[.str,.int .i64,.int .i64,.list [.int .i64,.int .i64,.int .i64],.int .i64,.int .i64,.int .i64],[(0,.sc .str),(3,.full 0),(4,.sc (.int .i64)),(5,.ptr 1 0),(6,.sc (.int .i64))],[.arr [.int .i64,.int .i64,.int .i64],.box [.sc (.int .i64),.sc (.int .i64),.sc (.int .i64)]]⟩ (fun ((text2,at_1,back,out1,o,o1,o2):Str×Int×Int×(List (Int×Int×Int))×Int×Int×Int)=>((ZqB 250 at_1)-back).toNat+2) 2 ⟨[.str,.int .i64,.list [.int .i64,.int .i64,.int .i64],.int .i64,.int .i64,.int .i64],[(0,.sc .str),(3,.full 0),(4,.sc (.int .i64)),(5,.ptr 1 0)],[.arr [.int .i64,.int .i64,.int .i64],.box [.sc (.int .i64),.sc (.int .i64),.sc (.int .i64)]]⟩ (.seq .u (.seq (.blk (.seq .u (.seq (.blk (.loop ⟨[.str,.int .i64,.int .i64,.int .i64,.list [.int .i64,.int .i64,.int .i64],.int .i64,.int .i64,.int .i64],[(0,.sc .str),(3,.full 0),(4,.sc (.int .i64)),(5,.ptr 1 0),(6,.sc (.int .i64)),(7,.sc (.int .i64))],[.arr [.int .i64,.int .i64,.int .i64],.box [.sc (.int .i64),.sc (.int .i64),.sc (.int .i64)]]⟩ (fun ((text3,at_2,back1,n,out2,o3,o4,o5):Str×Int×Int×Int×(List (Int×Int×Int))×Int×Int×Int)=>(60-n).toNat+1) 4 ⟨[.str,.int .i64,.int .i64,.int .i64,.list [.int .i64,.int .i64,.int .i64],.int .i64,.int .i64,.int .i64],[(0,.sc .str),(3,.full 0),(4,.sc (.int .i64)),(5,.ptr 1 0),(6,.sc (.int .i64)),(7,.sc (.int .i64))],[.arr [.int .i64,.int .i64,.int .i64],.box [.sc (.int .i64),.sc (.int .i64),.sc (.int .i64)]]⟩ (.seq (.seq (.reg [.bool] [(52,.sc .bool)]) .u) .u))) (.seq (.reg [.bool] [(62,.sc .bool)]) .u)))) .u))))) .u))))))) .u)))) Zat.S d=Zat.S.F d:=fun _=>by kernel_rfl
theorem Zat.sound:Zah Tryz.prog C0 115 Zat.S:=sE Za4 Zat.ev (Zai trivial) Tryz.func115
def Zcu.S:ZaI:=⟨0,[.sc (.int .i64),.sc (.int .i64),.sc (.int .i64),.sc (.int .i64)],[],[.int .i64,.int .i64,.int .i64,.int .i64],⟨[.list [.int .i64],.list [.int .i64]],.agg [.sc (.list [.int .i64]),.sc (.list [.int .i64])],[]⟩,
 fun ((from_,many,plain,each):Int×Int×Int×Int)=>Zcu from_ many plain each⟩
theorem Zcu.ev:∀d,Za2 C0 (hnd (tab [])) Tryz.f163 (.seq .u (.seq .u (.seq (.seq .u (.blk (.loop ⟨[.int .i64,.int .i64,.int .i64,.int .i64,.int .i64,.list [.int .i64],.list [.int .i64],.list [.int .i64],.list [.int .i64]],[(0,.sc (.int .i64)),(2,.sc (.int .i64)),(3,.sc (.int .i64)),(8,.ptr 0 0),(9,.ptr 1 0),(13,.sc (.int .i64)),(14,.sc (.int .i64))],[.box [.full 2,.full 3],.box [.full 4,.full 5],.arr [.int .i64],.arr [.int .i64],.arr [.int .i64],.arr [.int .i64]]⟩ (fun ((from_1,plain1,each1,t,t1,o,o1,o2,o3):Int×Int×Int×Int×Int×List Int×List Int×List Int×List Int)=>(t-t1).toNat+1) 0 ⟨[.list [.int .i64],.list [.int .i64],.list [.int .i64],.list [.int .i64]],[(8,.ptr 0 0),(9,.ptr 1 0)],[.box [.full 2,.full 3],.box [.full 4,.full 5],.arr [.int .i64],.arr [.int .i64],.arr [.int .i64],.arr [.int .i64]]⟩ (.seq .u (.seq .u (.seq (.blk (.seq .u (.seq .u (.join ⟨[.int .i64,.int .i64,.int .i64,.int .i64,.int .i64,.int .i64,.list [.int .i64],.list [.int .i64],.list [.int .i64],.list [.int .i64]],[(0,.sc (.int .i64)),(2,.sc (.int .i64)),(3,.sc (.int .i64)),(8,.ptr 0 0),(9,.ptr 1 0),(11,.sc (.int .i64)),(13,.sc (.int .i64)),(14,.sc (.int .i64))],[.box [.full 2,.full 3],.box [.full 4,.full 5],.arr [.int .i64],.arr [.int .i64],.arr [.int .i64],.arr [.int .i64]]⟩ .u .u)))) .u)))))) .u))) Zcu.S d=Zcu.S.F d:=fun _=>by kernel_rfl
theorem Zcu.sound:Zah Tryz.prog C0 163 Zcu.S:=sE Za4 Zcu.ev (Zai trivial) Tryz.func163
def Zb2.S:ZaI:=⟨0,[],[],[],⟨[.list [.int .i64],.list [.int .i64]],.agg [.sc (.list [.int .i64]),.sc (.list [.int .i64])],[]⟩,
 fun (_:Unit)=>Zb2⟩
theorem Zb2.ev:∀d,Za2 C0 (hnd (tab [(163,Zcu.S)])) Tryz.f116 .u Zb2.S d=Zb2.S.F d:=fun _=>by kernel_rfl
theorem Zb2.sound:Zah Tryz.prog C0 116 Zb2.S:=sE Za4 Zb2.ev (Zai ⟨Zcu.sound,trivial⟩) Tryz.func116
def Zb5.S:ZaI:=⟨0,[],[],[],⟨[.list [.int .i64],.list [.int .i64]],.agg [.sc (.list [.int .i64]),.sc (.list [.int .i64])],[]⟩,
 fun (_:Unit)=>Zb5⟩
theorem Zb5.ev:∀d,Za2 C0 (hnd (tab [(163,Zcu.S)])) Tryz.f118 .u Zb5.S d=Zb5.S.F d:=fun _=>by kernel_rfl
theorem Zb5.sound:Zah Tryz.prog C0 118 Zb5.S:=sE Za4 Zb5.ev (Zai ⟨Zcu.sound,trivial⟩) Tryz.func118
def Zcq.S:ZaI:=⟨0,[.agg [.sc (.list [.int .i64]),.sc (.list [.int .i64])],.sc (.int .i64)],[],[.list [.int .i64],.list [.int .i64],.int .i64],⟨[.int .i64],.sc (.int .i64),[]⟩,
 fun ((first,bits,n):List Int×List Int×Int)=>Zcq first bits n⟩
theorem Zcq.ev:∀d,Za2 C0 (hnd (tab [])) Tryz.f117 (.seq .u (.seq .u (.seq (.blk (.loop ⟨[.int .i64,.int .i64,.list [.int .i64],.list [.int .i64]],[(1,.sc (.int .i64)),(2,.ptr 0 0),(5,.sc (.int .i64))],[.box [.sc (.list [.int .i64]),.sc (.list [.int .i64])]]⟩ (fun ((n1,k,o,o1):Int×Int×List Int×List Int)=>k.toNat+1) 0 ⟨[.int .i64],[(5,.sc (.int .i64))],[]⟩ .u)) .u))) Zcq.S d=Zcq.S.F d:=fun _=>by kernel_rfl
theorem Zcq.sound:Zah Tryz.prog C0 117 Zcq.S:=sE Za4 Zcq.ev (Zai trivial) Tryz.func117
def Zbp.S:ZaI:=⟨0,[],[],[],⟨[.list [.int .i64],.list [.int .i64]],.tup [.full 0,.full 1],[.arr [.int .i64],.arr [.int .i64]]⟩,
 fun (_:Unit)=>Zbp⟩
theorem Zbp.ev:∀d,Za2 C0 (hnd (tab [])) Tryz.f113 (.seq .u (.seq .u (.seq (.seq .u (.blk (.loop ⟨[.int .i64,.int .i64,.list [.int .i64]],[(2,.full 0),(8,.sc (.int .i64)),(9,.sc (.int .i64))],[.arr [.int .i64]]⟩ (fun ((t,t1,lit):Int×Int×List Int)=>(t-t1).toNat+1) 0 ⟨[.list [.int .i64]],[(2,.full 0)],[.arr [.int .i64]]⟩ (.seq .u (.seq .u (.seq (.blk (.seq .u (.blk (.seq (.reg [.bool] [(15,.sc .bool)]) .u)))) .u)))))) (.seq .u (.seq (.seq .u (.blk (.loop ⟨[.int .i64,.int .i64,.list [.int .i64],.list [.int .i64]],[(2,.full 0),(4,.full 1),(34,.sc (.int .i64)),(35,.sc (.int .i64))],[.arr [.int .i64],.arr [.int .i64]]⟩ (fun ((t2,t3,lit2,dist):Int×Int×List Int×List Int)=>(t2-t3).toNat+1) 3 ⟨[.list [.int .i64],.list [.int .i64]],[(2,.full 0),(4,.full 1)],[.arr [.int .i64],.arr [.int .i64]]⟩ .u))) .u))))) Zbp.S d=Zbp.S.F d:=fun _=>by kernel_rfl
theorem Zbp.sound:Zah Tryz.prog C0 113 Zbp.S:=sE Za4 Zbp.ev (Zai trivial) Tryz.func113
def ZdC.S:ZaI:=⟨0,[.sc .str],[],[.str],⟨[.str],.sc .str,[]⟩,
 fun (text:Str)=>ZdC text⟩
theorem ZdC.ev:∀d,Za2 C0 (hnd (tab [(111,Zfb.S),(112,Zkj.S)])) Tryz.f80 .u ZdC.S d=ZdC.S.F d:=fun _=>by kernel_rfl
theorem ZdC.sound:Zah Tryz.prog C0 80 ZdC.S:=sE Za4 ZdC.ev (Zai ⟨Zfb.sound,Zkj.sound,trivial⟩) Tryz.func80
def Zgz.S:ZaI:=⟨1,[.ptr 0 0,.sc (.list [.int .i64]),.sc (.list [.int .i64]),.sc (.int .i64)],[.box [.full 1,.sc (.int .i64)],.arr [.int .u8]],[.list [.int .i64],.list [.int .i64],.int .i64,.int .i64,.list [.int .u8]],⟨[.int .i64,.list [.int .u8]],.tup [],[.box [.full 1,.sc (.int .i64)],.arr [.int .u8]]⟩,
 fun ((lens,all,s,many,b):List Int×List Int×Int×Int×List Int)=>Zgz lens all s many b⟩
theorem Zgz.ev:∀d,Za2 C0 (hnd (tab [(111,Zfb.S),(165,ZbC.S)])) Tryz.f122 .u Zgz.S d=Zgz.S.F d:=fun _=>by kernel_rfl
theorem Zgz.sound:Zah Tryz.prog C0 122 Zgz.S:=sE Za4 Zgz.ev (Zai ⟨Zfb.sound,ZbC.sound,trivial⟩) Tryz.func122
def ZbO.S:ZaI:=⟨1,[.ptr 0 0,.sc (.list [.int .i64,.int .i64,.int .i64]),.sc (.list [.int .i64]),.sc (.list [.int .i64])],[.box [.full 1,.sc (.int .i64)],.arr [.int .u8]],[.list [.int .i64,.int .i64,.int .i64],.list [.int .i64],.list [.int .i64],.int .i64,.list [.int .u8]],⟨[.int .i64,.list [.int .u8]],.tup [],[.box [.full 1,.sc (.int .i64)],.arr [.int .u8]]⟩,
 fun ((list,lit,dist,many,b):(List (Int×Int×Int))×List Int×List Int×Int×List Int)=>ZbO list lit dist many b⟩
theorem ZbO.ev:∀d,Za2 C0 (hnd (tab [(111,Zfb.S),(116,Zb2.S),(117,Zcq.S),(118,Zb5.S),(121,ZcC.S),(122,Zgz.S)])) Tryz.f114 (.seq .u (.seq (.seq .u (.blk (.loop ⟨[.list [.int .i64],.list [.int .i64],.list [.int .i64,.int .i64,.int .i64],.int .i64,.int .i64,.int .i64,.list [.int .i64],.list [.int .i64],.list [.int .u8]],[(0,.ptr 0 0),(2,.sc (.list [.int .i64])),(3,.sc (.list [.int .i64])),(8,.full 1),(9,.full 2),(17,.sc (.list [.int .i64,.int .i64,.int .i64])),(18,.sc (.int .i64)),(19,.sc (.int .i64))],[.box [.full 3,.sc (.int .i64)],.arr [.int .i64],.arr [.int .i64],.arr [.int .u8]]⟩ (fun ((lit1,dist1,t,t1,t2,o,a,b1,o1):List Int×List Int×(List (Int×Int×Int))×Int×Int×Int×List Int×List Int×List Int)=>(t1-t2).toNat+1) 0 ⟨[.list [.int .i64],.int .i64,.list [.int .i64],.list [.int .u8]],[(0,.ptr 0 0),(2,.sc (.list [.int .i64])),(8,.full 1)],[.box [.full 2,.sc (.int .i64)],.arr [.int .i64],.arr [.int .u8]]⟩ .u))) .u)) ZbO.S d=ZbO.S.F d:=fun _=>by kernel_rfl
theorem ZbO.sound:Zah Tryz.prog C0 114 ZbO.S:=sE Za4 ZbO.ev (Zai ⟨Zfb.sound,Zb2.sound,Zcq.sound,Zb5.sound,ZcC.sound,Zgz.sound,trivial⟩) Tryz.func114
def ZdH.S:ZaI:=⟨0,[.sc .str],[],[.str],⟨[.str],.sc .str,[]⟩,
 fun (text:Str)=>ZdH text⟩
theorem ZdH.ev:∀d,Za2 C0 (hnd (tab [(111,Zfb.S),(113,Zbp.S),(114,ZbO.S),(115,Zat.S)])) Tryz.f81 .u ZdH.S d=ZdH.S.F d:=fun _=>by kernel_rfl
theorem ZdH.sound:Zah Tryz.prog C0 81 ZdH.S:=sE Za4 ZdH.ev (Zai ⟨Zfb.sound,Zbp.sound,ZbO.sound,Zat.sound,trivial⟩) Tryz.func81
def ZbJ.S:ZaI:=⟨0,[.sc (.list [.int .i64]),.sc (.int .i64)],[],[.list [.int .i64],.int .i64],⟨[.list [.int .i64]],.sc (.list [.int .i64]),[]⟩,
 fun ((lens,least_):List Int×Int)=>ZbJ lens least_⟩
theorem ZbJ.ev:∀d,Za2 C0 (hnd (tab [])) Tryz.f119 (.seq .u (.seq .u (.seq (.blk (.loop ⟨[.list [.int .i64],.int .i64,.int .i64],[(0,.sc (.list [.int .i64])),(1,.sc (.int .i64)),(5,.sc (.int .i64))],[]⟩ (fun ((lens1,least_1,n):List Int×Int×Int)=>(n-least_1).toNat+1) 0 ⟨[.list [.int .i64],.int .i64],[(0,.sc (.list [.int .i64])),(5,.sc (.int .i64))],[]⟩ (.seq (.seq (.reg [.bool] [(18,.sc .bool)]) .u) .u))) .u))) ZbJ.S d=ZbJ.S.F d:=fun _=>by kernel_rfl
theorem ZbJ.sound:Zah Tryz.prog C0 119 ZbJ.S:=sE Za4 ZbJ.ev (Zai trivial) Tryz.func119
def Za0.S:ZaI:=⟨0,[.sc .str],[],[.str],⟨[.str],.sc .str,[]⟩,
 fun (text:Str)=>Za0 text⟩
theorem Za0.ev:∀d,Za2 C0 (hnd (tab [(111,Zfb.S),(114,ZbO.S),(115,Zat.S),(116,Zb2.S),(117,Zcq.S),(118,Zb5.S),(119,ZbJ.S),(120,ZaZ.S),(121,ZcC.S),(122,Zgz.S)])) Tryz.f82 (.seq .u (.seq .u (.seq .u (.seq .u (.seq .u (.seq .u (.seq (.seq .u (.blk (.loop ⟨[.bool,.int .i64,.int .i64,.list [.int .i64,.int .i64,.int .i64],.list [.int .i64],.list [.int .i64]],[(3,.full 0),(4,.full 1),(5,.full 2),(6,.sc .bool),(31,.full 0),(32,.sc (.int .i64)),(33,.sc (.int .i64))],[.arr [.int .i64,.int .i64,.int .i64],.arr [.int .i64],.arr [.int .i64]]⟩ (fun ((none_,t,t1,o,a,b):Bool×Int×Int×(List (Int×Int×Int))×List Int×List Int)=>(t-t1).toNat+1) 0 ⟨[.bool,.list [.int .i64,.int .i64,.int .i64],.list [.int .i64],.list [.int .i64]],[(3,.full 0),(4,.full 1),(5,.full 2),(6,.sc .bool)],[.arr [.int .i64,.int .i64,.int .i64],.arr [.int .i64],.arr [.int .i64]]⟩ .u))) (.join ⟨[.list [.int .i64,.int .i64,.int .i64],.list [.int .i64],.list [.int .i64]],[(3,.full 0),(4,.full 1),(5,.full 2)],[.arr [.int .i64,.int .i64,.int .i64],.arr [.int .i64],.arr [.int .i64]]⟩ .u (.seq .u (.seq .u (.seq .u (.seq (.seq .u (.blk (.loop ⟨[.list [.int .i64],.list [.int .i64],.int .i64,.int .i64,.list [.int .i64,.int .i64,.int .i64],.list [.int .i64],.list [.int .i64]],[(3,.full 0),(9,.sc (.list [.int .i64])),(10,.sc (.list [.int .i64])),(11,.full 1),(12,.full 2),(84,.full 1),(85,.sc (.int .i64)),(86,.sc (.int .i64))],[.arr [.int .i64,.int .i64,.int .i64],.arr [.int .i64],.arr [.int .i64]]⟩ (fun ((lit,dist,t2,t3,list2,o1,c):List Int×List Int×Int×Int×(List (Int×Int×Int))×List Int×List Int)=>(t2-t3).toNat+1) 2 ⟨[.list [.int .i64],.list [.int .i64],.list [.int .i64,.int .i64,.int .i64],.list [.int .i64],.list [.int .i64]],[(3,.full 0),(9,.sc (.list [.int .i64])),(10,.sc (.list [.int .i64])),(11,.full 1),(12,.full 2)],[.arr [.int .i64,.int .i64,.int .i64],.arr [.int .i64],.arr [.int .i64]]⟩ .u))) (.seq .u (.seq .u (.seq .u (.seq .u (.seq .u (.seq .u (.seq .u (.seq (.seq .u (.blk (.loop ⟨[.list [.int .i64],.list [.int .i64],.list [.int .i64],.int .i64,.int .i64,.list [.int .i64,.int .i64,.int .i64],.list [.int .i64],.list [.int .i64],.int .i64,.list [.int .u8]],[(3,.full 0),(9,.sc (.list [.int .i64])),(10,.sc (.list [.int .i64])),(11,.full 1),(15,.full 2),(16,.ptr 3 0),(120,.sc (.list [.int .i64])),(121,.sc (.int .i64)),(122,.sc (.int .i64))],[.arr [.int .i64,.int .i64,.int .i64],.arr [.int .i64],.arr [.int .i64],.box [.full 4,.sc (.int .i64)],.arr [.int .u8]]⟩ (fun ((lit2,dist2,t4,t5,t6,list4,all1,meta_,o2,o3):List Int×List Int×List Int×Int×Int×(List (Int×Int×Int))×List Int×List Int×Int×List Int)=>(t5-t6).toNat+1) 4 ⟨[.list [.int .i64],.list [.int .i64],.list [.int .i64,.int .i64,.int .i64],.list [.int .i64],.list [.int .i64],.int .i64,.list [.int .u8]],[(3,.full 0),(9,.sc (.list [.int .i64])),(10,.sc (.list [.int .i64])),(11,.full 1),(15,.full 2),(16,.ptr 3 0)],[.arr [.int .i64,.int .i64,.int .i64],.arr [.int .i64],.arr [.int .i64],.box [.full 4,.sc (.int .i64)],.arr [.int .u8]]⟩ .u))) (.seq .u (.seq (.seq .u (.blk (.loop ⟨[.list [.int .i64],.list [.int .i64],.int .i64,.int .i64,.list [.int .i64,.int .i64,.int .i64],.list [.int .i64],.int .i64,.list [.int .i64],.list [.int .i64],.list [.int .u8]],[(3,.full 0),(9,.sc (.list [.int .i64])),(10,.sc (.list [.int .i64])),(15,.full 1),(16,.ptr 2 0),(19,.full 3),(135,.full 4),(136,.sc (.int .i64)),(137,.sc (.int .i64))],[.arr [.int .i64,.int .i64,.int .i64],.arr [.int .i64],.box [.full 5,.sc (.int .i64)],.arr [.int .i64],.arr [.int .i64],.arr [.int .u8]]⟩ (fun ((lit4,dist4,t7,t8,list6,meta_2,o6,m,o7,o8):List Int×List Int×Int×Int×(List (Int×Int×Int))×List Int×Int×List Int×List Int×List Int)=>(t7-t8).toNat+1) 6 ⟨[.list [.int .i64],.list [.int .i64],.list [.int .i64,.int .i64,.int .i64],.int .i64,.list [.int .u8]],[(3,.full 0),(9,.sc (.list [.int .i64])),(10,.sc (.list [.int .i64])),(16,.ptr 1 0)],[.arr [.int .i64,.int .i64,.int .i64],.box [.full 2,.sc (.int .i64)],.arr [.int .u8]]⟩ .u))) .u)))))))))))))))))))))) Za0.S d=Za0.S.F d:=fun _=>by kernel_rfl
theorem Za0.sound:Zah Tryz.prog C0 82 Za0.S:=sE Za4 Za0.ev (Zai ⟨Zfb.sound,ZbO.sound,Zat.sound,Zb2.sound,Zcq.sound,Zb5.sound,ZbJ.sound,ZaZ.sound,ZcC.sound,Zgz.sound,trivial⟩) Tryz.func82
def Za1.S:ZaI:=⟨0,[.sc .str],[],[.str],⟨[.str],.sc .str,[]⟩,
 fun (text:Str)=>Za1 text⟩
theorem Za1.ev:∀d,Za2 C0 (hnd (tab [(80,ZdC.S),(81,ZdH.S),(82,Za0.S)])) Tryz.f39 (.seq .u (.seq .u (.seq (.seq .u (.blk (.loop ⟨[.str,.int .i64,.int .i64,.list [.str]],[(3,.sc .str),(12,.full 0),(13,.sc (.int .i64)),(14,.sc (.int .i64))],[.arr [.str]]⟩ (fun ((best,t,t1,o):Str×Int×Int×List Str)=>(t-t1).toNat+1) 0 ⟨[.str],[(3,.sc .str)],[]⟩ .u))) .u))) Za1.S d=Za1.S.F d:=fun _=>by kernel_rfl
theorem Za1.sound:Zah Tryz.prog C0 39 Za1.S:=sE Za4 Za1.ev (Zai ⟨ZdC.sound,ZdH.sound,Za0.sound,trivial⟩) Tryz.func39
def ZbT.S:ZaI:=⟨1,[.ptr 0 0,.full 1],[.box [.sc .str,.sc (.int .i64),.sc .bool],.arr [.int .u8]],[.str,.int .i64,.bool,.list [.int .u8]],⟨[.str,.int .i64,.bool,.list [.int .u8]],.full 1,[.box [.sc .str,.sc (.int .i64),.sc .bool],.arr [.int .u8]]⟩,
 fun ((s,at_,bad,out):Str×Int×Bool×List Int)=>ZbT s at_ bad out⟩
theorem ZbT.ev:∀d,Za2 C0 (hnd (tab [(124,Zfe.S),(128,Zep.S)])) Tryz.f125 (.seq .u (.seq .u (.seq .u (.join ⟨[.int .i64,.str,.int .i64,.bool,.list [.int .u8]],[(0,.ptr 0 0),(1,.full 1),(5,.sc (.int .i64))],[.box [.sc .str,.sc (.int .i64),.sc .bool],.arr [.int .u8]]⟩ .u (.seq (.seq .u (.blk (.loop ⟨[.int .i64,.int .i64,.str,.int .i64,.bool,.list [.int .u8]],[(0,.ptr 0 0),(1,.full 1),(5,.sc (.int .i64)),(7,.sc (.int .i64))],[.box [.sc .str,.sc (.int .i64),.sc .bool],.arr [.int .u8]]⟩ (fun ((n1,k,o3,o4,o5,out2):Int×Int×Str×Int×Bool×List Int)=>(n1-k).toNat+1) 0 ⟨[.str,.int .i64,.bool,.list [.int .u8]],[(1,.full 1)],[.box [.sc .str,.sc (.int .i64),.sc .bool],.arr [.int .u8]]⟩ (.seq (.seq (.reg [.bool] [(35,.sc .bool)]) .u) .u)))) .u))))) ZbT.S d=ZbT.S.F d:=fun _=>by kernel_rfl
theorem ZbT.sound:Zah Tryz.prog C0 125 ZbT.S:=sE Za4 ZbT.ev (Zai ⟨Zfe.sound,Zep.sound,trivial⟩) Tryz.func125
def Zau.S:ZaI:=⟨1,[.ptr 0 0],[.box [.sc .str,.sc (.int .i64),.sc .bool]],[.str,.int .i64,.bool],⟨[.list [.int .i64],.list [.int .i64],.str,.int .i64,.bool],.tup [.sc (.list [.int .i64]),.sc (.list [.int .i64])],[.box [.sc .str,.sc (.int .i64),.sc .bool]]⟩,
 fun ((s,at_,bad):Str×Int×Bool)=>Zau s at_ bad⟩
theorem Zau.ev:∀d,Za2 C0 (hnd (tab [(124,Zfe.S),(166,Zcf.S),(167,Zck.S),(168,Zbn.S)])) Tryz.f127 (.seq .u (.seq .u (.join ⟨[.int .i64,.int .i64,.int .i64,.str,.int .i64,.bool],[(0,.ptr 0 0),(4,.sc (.int .i64)),(5,.sc (.int .i64)),(6,.sc (.int .i64))],[.box [.sc .str,.sc (.int .i64),.sc .bool]]⟩ (.seq (.reg [.bool] [(29,.sc .bool)]) .u) (.seq .u (.seq (.seq .u (.blk (.loop ⟨[.int .i64,.int .i64,.list [.int .i64],.int .i64,.int .i64,.str,.int .i64,.bool,.list [.int .i64]],[(0,.ptr 0 0),(4,.sc (.int .i64)),(5,.sc (.int .i64)),(7,.full 1),(38,.sc (.list [.int .i64])),(39,.sc (.int .i64)),(40,.sc (.int .i64))],[.box [.sc .str,.sc (.int .i64),.sc .bool],.arr [.int .i64]]⟩ (fun ((lit1,dist1,t,t1,t2,o3,o4,o5,meta_):Int×Int×List Int×Int×Int×Str×Int×Bool×List Int)=>(t1-t2).toNat+1) 0 ⟨[.int .i64,.int .i64,.str,.int .i64,.bool,.list [.int .i64]],[(0,.ptr 0 0),(4,.sc (.int .i64)),(5,.sc (.int .i64)),(7,.full 1)],[.box [.sc .str,.sc (.int .i64),.sc .bool],.arr [.int .i64]]⟩ .u))) (.seq (.seq (.reg [.bool] [(58,.sc .bool)]) .u) (.seq .u (.seq .u (.seq (.blk (.loop ⟨[.int .i64,.int .i64,.str,.int .i64,.bool,.map [.int .i64,.int .i64] [.int .i64],.list [.int .i64]],[(0,.ptr 0 0),(4,.sc (.int .i64)),(5,.sc (.int .i64)),(10,.map 1),(11,.full 2)],[.box [.sc .str,.sc (.int .i64),.sc .bool],.map [.int .i64,.int .i64] [.int .i64],.arr [.int .i64]]⟩ (fun ((lit3,dist3,o9,o10,o11,o12,all):Int×Int×Str×Int×Bool×(List ((Int×Int)×Int))×List Int)=>((w64 (lit3+dist3))-(all.length:Int)).toNat+1) 2 ⟨[.int .i64,.int .i64,.str,.int .i64,.bool,.list [.int .i64]],[(0,.ptr 0 0),(4,.sc (.int .i64)),(5,.sc (.int .i64)),(11,.full 1)],[.box [.sc .str,.sc (.int .i64),.sc .bool],.arr [.int .i64]]⟩ (.seq (.seq (.reg [.bool] [(77,.sc .bool)]) .u) (.blk (.seq .u (.seq .u (.join ⟨[.int .i64,.int .i64,.int .i64,.int .i64,.str,.int .i64,.bool,.map [.int .i64,.int .i64] [.int .i64],.list [.int .i64]],[(0,.ptr 0 0),(4,.sc (.int .i64)),(5,.sc (.int .i64)),(10,.map 1),(11,.full 2),(13,.sc (.int .i64)),(14,.sc (.int .i64))],[.box [.sc .str,.sc (.int .i64),.sc .bool],.map [.int .i64,.int .i64] [.int .i64],.arr [.int .i64]]⟩ .u (.seq .u (.blk (.loop ⟨[.int .i64,.int .i64,.int .i64,.int .i64,.int .i64,.str,.int .i64,.bool,.map [.int .i64,.int .i64] [.int .i64],.list [.int .i64]],[(0,.ptr 0 0),(4,.sc (.int .i64)),(5,.sc (.int .i64)),(10,.map 1),(11,.full 2),(13,.sc (.int .i64)),(112,.sc (.int .i64)),(113,.sc (.int .i64))],[.box [.sc .str,.sc (.int .i64),.sc .bool],.map [.int .i64,.int .i64] [.int .i64],.arr [.int .i64]]⟩ (fun ((lit5,dist5,again_1,t3,t4,o17,o18,o19,o20,all2):Int×Int×Int×Int×Int×Str×Int×Bool×(List ((Int×Int)×Int))×List Int)=>(t3-t4).toNat+1) 5 ⟨[.int .i64,.int .i64,.str,.int .i64,.bool,.map [.int .i64,.int .i64] [.int .i64],.list [.int .i64]],[(0,.ptr 0 0),(4,.sc (.int .i64)),(5,.sc (.int .i64)),(10,.map 1),(11,.full 2)],[.box [.sc .str,.sc (.int .i64),.sc .bool],.map [.int .i64,.int .i64] [.int .i64],.arr [.int .i64]]⟩ .u)))))))))) (.seq (.seq (.reg [.bool] [(131,.sc .bool)]) .u) .u)))))))))) Zau.S d=Zau.S.F d:=fun _=>by kernel_rfl
theorem Zau.sound:Zah Tryz.prog C0 127 Zau.S:=sE Za4 Zau.ev (Zai ⟨Zfe.sound,Zcf.sound,Zck.sound,Zbn.sound,trivial⟩) Tryz.func127
end Ev
end
section
open Go Go.Proofs
set_option maxRecDepth 100000
namespace Ev
set_option maxHeartbeats 1000000
def Zco.S:ZaI:=⟨1,[.ptr 0 0,.full 1,.sc (.list [.int .i64]),.sc (.list [.int .i64])],[.box [.sc .str,.sc (.int .i64),.sc .bool],.arr [.int .u8]],[.list [.int .i64],.list [.int .i64],.str,.int .i64,.bool,.list [.int .u8]],⟨[.str,.int .i64,.bool,.list [.int .u8]],.full 1,[.box [.sc .str,.sc (.int .i64),.sc .bool],.arr [.int .u8]]⟩,
 fun ((lit,dist,s,at_,bad,out):List Int×List Int×Str×Int×Bool×List Int)=>Zco lit dist s at_ bad out⟩
theorem Zco.ev:∀d,Za2 C0 (hnd (tab [(116,Zb2.S),(118,Zb5.S),(124,Zfe.S),(166,Zcf.S),(167,Zck.S),(168,Zbn.S),(169,add.S)])) Tryz.f126 (.seq .u (.seq (.seq (.reg [.bool] [(29,.sc .bool)]) .u) (.seq .u (.seq (.blk (.loopS ⟨[.str,.int .i64,.bool,.list [.int .u8],.map [.int .i64,.int .i64] [.int .i64],.map [.int .i64,.int .i64] [.int .i64]],[(0,.ptr 0 0),(1,.full 1),(9,.map 2),(10,.map 3)],[.box [.sc .str,.sc (.int .i64),.sc .bool],.arr [.int .u8],.map [.int .i64,.int .i64] [.int .i64],.map [.int .i64,.int .i64] [.int .i64]]⟩ (fun ((o,o1,o2,out1,o3,o4):Str×Int×Bool×List Int×(List ((Int×Int)×Int))×List ((Int×Int)×Int))=>100000) 0 ⟨[.str,.int .i64,.bool,.list [.int .u8]],[(1,.full 1)],[.box [.sc .str,.sc (.int .i64),.sc .bool],.arr [.int .u8]]⟩ (.seq (.seq (.reg [.bool] [(47,.sc .bool)]) .u) (.blk (.seq .u (.seq (.blk (.seq (.reg [.bool] [(51,.sc .bool)]) .u)) (.seq (.cm [(1,[0]),(2,[0]),(3,[0]),(4,[0]),(5,[0])]) (.seq .u (.seq .u (.seq (.cm [(1,[0]),(2,[0]),(3,[0]),(4,[0])]) (.seq .u (.seq (.seq (.reg [.bool] [(129,.sc .bool)]) .u) .u)))))))))))) .u)))) Zco.S d=Zco.S.F d:=fun _=>by kernel_rfl
theorem Zco.sound:Zah Tryz.prog C0 126 Zco.S:=sE Za4 Zco.ev (Zai ⟨Zb2.sound,Zb5.sound,Zfe.sound,Zcf.sound,Zck.sound,Zbn.sound,add.sound,trivial⟩) Tryz.func126
def Za6.S:ZaI:=⟨1,[.ptr 0 0,.full 1,.sc (.list [.int .i64]),.sc (.list [.int .i64])],[.box [.sc .str,.sc (.int .i64),.sc .bool],.arr [.int .u8]],[.list [.int .i64],.list [.int .i64],.str,.int .i64,.bool,.list [.int .u8]],⟨[.str,.int .i64,.bool],.undef,[.box [.sc .str,.sc (.int .i64),.sc .bool]]⟩,
 fun ((lit,dist,s,at_,bad,out):List Int×List Int×Str×Int×Bool×List Int)=>Za6 lit dist s at_ bad out⟩
theorem Za6.ev:∀d,Za2 C0 (hnd (tab [(116,Zb2.S),(118,Zb5.S),(124,Zfe.S),(166,Zcf.S),(167,Zck.S),(168,Zbn.S),(169,add.S)])) Tryz.f126 (.seq .u (.seq (.seq (.reg [.bool] [(29,.sc .bool)]) .u) (.seq .u (.seq (.blk (.loopS ⟨[.str,.int .i64,.bool,.list [.int .u8],.map [.int .i64,.int .i64] [.int .i64],.map [.int .i64,.int .i64] [.int .i64]],[(0,.ptr 0 0),(1,.full 1),(9,.map 2),(10,.map 3)],[.box [.sc .str,.sc (.int .i64),.sc .bool],.arr [.int .u8],.map [.int .i64,.int .i64] [.int .i64],.map [.int .i64,.int .i64] [.int .i64]]⟩ (fun ((o,o1,o2,out1,o3,o4):Str×Int×Bool×List Int×(List ((Int×Int)×Int))×List ((Int×Int)×Int))=>100000) 0 ⟨[.str,.int .i64,.bool,.list [.int .u8]],[(1,.full 1)],[.box [.sc .str,.sc (.int .i64),.sc .bool],.arr [.int .u8]]⟩ (.seq (.seq (.reg [.bool] [(47,.sc .bool)]) .u) (.blk (.seq .u (.seq (.blk (.seq (.reg [.bool] [(51,.sc .bool)]) .u)) (.seq (.cm [(1,[0]),(2,[0]),(3,[0]),(4,[0]),(5,[0])]) (.seq .u (.seq .u (.seq (.cm [(1,[0]),(2,[0]),(3,[0]),(4,[0])]) (.seq .u (.seq (.seq (.reg [.bool] [(129,.sc .bool)]) .u) .u)))))))))))) .u)))) Za6.S d=Za6.S.F d:=fun _=>by kernel_rfl
theorem Za6.sound:Zah Tryz.prog C0 126 Za6.S:=sE Za4 Za6.ev (Zai ⟨Zb2.sound,Zb5.sound,Zfe.sound,Zcf.sound,Zck.sound,Zbn.sound,add.sound,trivial⟩) Tryz.func126
def Zbf.S:ZaI:=⟨0,[.sc .str],[],[.str],⟨[.str,.int .i64,.bool],.tup [.sc .str,.sc (.int .i64),.sc .bool],[]⟩,
 fun (text:Str)=>Zbf text⟩
theorem Zbf.ev:∀d,Za2 C0 (hnd (tab [(113,Zbp.S),(123,Zi1.S),(124,Zfe.S),(125,ZbT.S),(126,Zco.S),(126,Za6.S),(127,Zau.S),(128,Zep.S)])) Tryz.f83 (.seq .u (.seq .u (.seq .u (.seq .u (.seq (.seq .u (.blk (.loopS ⟨[.bool,.str,.int .i64,.bool,.list [.int .u8]],[(5,.ptr 0 0),(6,.full 1),(7,.sc .bool)],[.box [.sc .str,.sc (.int .i64),.sc .bool],.arr [.int .u8]]⟩ (fun ((last,o,o1,o2,out):Bool×Str×Int×Bool×List Int)=>100000) 0 ⟨[.str,.int .i64,.bool,.list [.int .u8]],[(5,.ptr 0 0),(6,.full 1)],[.box [.sc .str,.sc (.int .i64),.sc .bool],.arr [.int .u8]]⟩ .u))) .u))))) Zbf.S d=Zbf.S.F d:=fun _=>by kernel_rfl
theorem Zbf.sound:Zah Tryz.prog C0 83 Zbf.S:=sE Za4 Zbf.ev (Zai ⟨Zbp.sound,Zi1.sound,Zfe.sound,ZbT.sound,Zco.sound,Za6.sound,Zau.sound,Zep.sound,trivial⟩) Tryz.func83
def Zc1.S:ZaI:=⟨0,[.sc .str],[],[.str],⟨[.int .i64],.sc (.int .i64),[]⟩,
 fun (text:Str)=>Zc1 text⟩
theorem Zc1.ev:∀d,Za2 C0 (hnd (tab [(83,Zbf.S)])) Tryz.f40 .u Zc1.S d=Zc1.S.F d:=fun _=>by kernel_rfl
theorem Zc1.sound:Zah Tryz.prog C0 40 Zc1.S:=sE Za4 Zc1.ev (Zai ⟨Zbf.sound,trivial⟩) Tryz.func40
def ZqE.S:ZaI:=⟨0,[.sc (.int .i64),.sc (.int .i64)],[],[.int .i64,.int .i64],⟨[.int .i64],.sc (.int .i64),[]⟩,
 fun ((year,month):Int×Int)=>ZqE year month⟩
theorem ZqE.ev:∀d,Za2 C0 (hnd (tab [])) Tryz.f151 (.seq .u (.seq (.seq .u (.blk (.join ⟨[.int .i64,.int .i64,.bool],[(0,.sc (.int .i64)),(5,.sc (.int .i64)),(6,.sc .bool)],[]⟩ .u (.cond .u (.seq .u (.cond (.seq (.seq (.reg [.bool] [(25,.sc .bool)]) .u) .u) .u)))))) .u)) ZqE.S d=ZqE.S.F d:=fun _=>by kernel_rfl
theorem ZqE.sound:Zah Tryz.prog C0 151 ZqE.S:=sE Za4 ZqE.ev (Zai trivial) Tryz.func151
def ZdA.S:ZaI:=⟨0,[.agg [.sc (.int .i64),.sc (.int .i64),.sc (.int .i64),.sc (.int .i64),.sc (.int .i64),.sc (.int .i64)]],[],[.int .i64,.int .i64,.int .i64,.int .i64,.int .i64,.int .i64],⟨[.bool],.sc .bool,[]⟩,
 fun ((y,mo,d,h,mi,sec):Int×Int×Int×Int×Int×Int)=>ZdA y mo d h mi sec⟩
theorem ZdA.ev:∀d,Za2 C0 (hnd (tab [(150,Zbx.S),(151,ZqE.S)])) Tryz.f100 (.seq .u (.seq (.reg [.bool] [(2,.sc .bool)]) .u)) ZdA.S d=ZdA.S.F d:=fun _=>by kernel_rfl
theorem ZdA.sound:Zah Tryz.prog C0 100 ZdA.S:=sE Za4 ZdA.ev (Zai ⟨Zbx.sound,ZqE.sound,trivial⟩) Tryz.func100
def Zcs.S:ZaI:=⟨0,[.agg [.sc (.int .i64),.sc (.int .i64),.sc (.int .i64),.sc (.int .i64),.sc (.int .i64),.sc (.int .i64)]],[],[.int .i64,.int .i64,.int .i64,.int .i64,.int .i64,.int .i64],⟨[.int .i64],.sc (.int .i64),[]⟩,
 fun ((y,mo,d,h,mi,sec):Int×Int×Int×Int×Int×Int)=>Zcs y mo d h mi sec⟩
theorem Zcs.ev:∀d,Za2 C0 (hnd (tab [(100,ZdA.S)])) Tryz.f102 .u Zcs.S d=Zcs.S.F d:=fun _=>by kernel_rfl
theorem Zcs.sound:Zah Tryz.prog C0 102 Zcs.S:=sE Za4 Zcs.ev (Zai ⟨ZdA.sound,trivial⟩) Tryz.func102
def ZdD.S:ZaI:=⟨0,[.sc (.int .i64)],[],[.int .i64],⟨[.int .i64,.int .i64,.int .i64,.int .i64,.int .i64,.int .i64,.bool],.tup [.agg [.sc (.int .i64),.sc (.int .i64),.sc (.int .i64),.sc (.int .i64),.sc (.int .i64),.sc (.int .i64)],.sc .bool],[]⟩,
 fun (n:Int)=>ZdD n⟩
theorem ZdD.ev:∀d,Za2 C0 (hnd (tab [(102,Zcs.S)])) Tryz.f109 .u ZdD.S d=ZdD.S.F d:=fun _=>by kernel_rfl
theorem ZdD.sound:Zah Tryz.prog C0 109 ZdD.S:=sE Za4 ZdD.ev (Zai ⟨Zcs.sound,trivial⟩) Tryz.func109
def ZbE.S:ZaI:=⟨0,[.agg [.sc .str,.sc (.int .i64),.sc (.int .i64),.sc (.int .i64),.sc (.int .i64),.sc (.int .i64),.sc (.int .i64),.sc .str]],[],[.str,.int .i64,.int .i64,.int .i64,.int .i64,.int .i64,.int .i64,.str],⟨[.bool],.sc .bool,[]⟩,
 fun ((name,y,mo,d,h,mi,sec,text):Str×Int×Int×Int×Int×Int×Int×Str)=>ZbE name y mo d h mi sec text⟩
theorem ZbE.ev:∀d,Za2 C0 (hnd (tab [(73,ZaN.S),(100,ZdA.S)])) Tryz.f58 (.seq .u (.seq (.reg [.bool] [(2,.sc .bool)]) .u)) ZbE.S d=ZbE.S.F d:=fun _=>by kernel_rfl
theorem ZbE.sound:Zah Tryz.prog C0 58 ZbE.S:=sE Za4 ZbE.ev (Zai ⟨ZaN.sound,ZdA.sound,trivial⟩) Tryz.func58
def Zbz.S:ZaI:=⟨0,[.sc (.int .i64),.sc (.int .i64)],[],[.int .i64,.int .i64],⟨[.str],.sc .str,[]⟩,
 fun ((n,bytes):Int×Int)=>Zbz n bytes⟩
theorem Zbz.ev:∀d,Za2 C0 (hnd (tab [])) Tryz.f64 (.seq .u (.seq .u (.seq (.seq .u (.blk (.loop ⟨[.int .i64,.int .i64,.int .i64,.list [.int .u8]],[(0,.sc (.int .i64)),(5,.full 0),(7,.sc (.int .i64)),(8,.sc (.int .i64))],[.arr [.int .u8]]⟩ (fun ((n1,t,t1,out):Int×Int×Int×List Int)=>(t-t1).toNat+1) 0 ⟨[.list [.int .u8]],[(5,.full 0)],[.arr [.int .u8]]⟩ .u))) .u))) Zbz.S d=Zbz.S.F d:=fun _=>by kernel_rfl
theorem Zbz.sound:Zah Tryz.prog C0 64 Zbz.S:=sE Za4 Zbz.ev (Zai trivial) Tryz.func64
def Zbc.S:ZaI:=⟨0,[.sc .str,.sc (.int .i64),.sc (.int .i64)],[],[.str,.int .i64,.int .i64],⟨[.int .i64],.sc (.int .i64),[]⟩,
 fun ((s,at_,bytes):Str×Int×Int)=>Zbc s at_ bytes⟩
theorem Zbc.ev:∀d,Za2 C0 (hnd (tab [])) Tryz.f63 (.seq .u (.seq .u (.seq (.seq .u (.blk (.loop ⟨[.str,.int .i64,.int .i64,.int .i64],[(0,.sc .str),(1,.sc (.int .i64)),(7,.sc (.int .i64)),(8,.sc (.int .i64))],[]⟩ (fun ((s1,at_1,n,k):Str×Int×Int×Int)=>(k-0).toNat+2) 0 ⟨[.int .i64],[(7,.sc (.int .i64))],[]⟩ .u))) .u))) Zbc.S d=Zbc.S.F d:=fun _=>by kernel_rfl
theorem Zbc.sound:Zah Tryz.prog C0 63 Zbc.S:=sE Za4 Zbc.ev (Zai trivial) Tryz.func63
def Zea.S:ZaI:=⟨0,[.agg [.sc .str,.sc (.int .i64),.sc (.int .i64),.sc (.int .i64),.sc (.int .i64),.sc (.int .i64),.sc (.int .i64),.sc .str],.sc (.int .i64),.sc (.int .i64)],[],[.str,.int .i64,.int .i64,.int .i64,.int .i64,.int .i64,.int .i64,.str,.int .i64,.int .i64],⟨[.str],.sc .str,[]⟩,
 fun ((name,y,mo,d,h,mi,sec,text,method,packed):Str×Int×Int×Int×Int×Int×Int×Str×Int×Int)=>Zea name y mo d h mi sec text method packed⟩
theorem Zea.ev:∀d,Za2 C0 (hnd (tab [(37,crc.S),(64,Zbz.S),(102,Zcs.S)])) Tryz.f61 .u Zea.S d=Zea.S.F d:=fun _=>by kernel_rfl
theorem Zea.sound:Zah Tryz.prog C0 61 Zea.S:=sE Za4 Zea.ev (Zai ⟨crc.sound,Zbz.sound,Zcs.sound,trivial⟩) Tryz.func61
def ZdF.S:ZaI:=⟨0,[.agg [.sc .str,.sc (.int .i64),.sc (.int .i64),.sc (.int .i64),.sc (.int .i64),.sc (.int .i64),.sc (.int .i64),.sc .str]],[],[.str,.int .i64,.int .i64,.int .i64,.int .i64,.int .i64,.int .i64,.str],⟨[.str],.sc .str,[]⟩,
 fun ((name,y,mo,d,h,mi,sec,text):Str×Int×Int×Int×Int×Int×Int×Str)=>ZdF name y mo d h mi sec text⟩
theorem ZdF.ev:∀d,Za2 C0 (hnd (tab [(39,Za1.S),(58,ZbE.S),(61,Zea.S)])) Tryz.f24 .u ZdF.S d=ZdF.S.F d:=fun _=>by kernel_rfl
theorem ZdF.sound:Zah Tryz.prog C0 24 ZdF.S:=sE Za4 ZdF.ev (Zai ⟨Za1.sound,ZbE.sound,Zea.sound,trivial⟩) Tryz.func24
def ZdG.S:ZaI:=⟨0,[.sc .str],[],[.str],⟨[.str,.int .i64,.int .i64,.int .i64,.int .i64,.int .i64,.int .i64,.str,.int .i64,.bool],.tup [.agg [.sc .str,.sc (.int .i64),.sc (.int .i64),.sc (.int .i64),.sc (.int .i64),.sc (.int .i64),.sc (.int .i64),.sc .str],.sc (.int .i64),.sc .bool],[]⟩,
 fun (text:Str)=>ZdG text⟩
theorem ZdG.ev:∀d,Za2 C0 (hnd (tab [(58,ZbE.S),(61,Zea.S),(63,Zbc.S),(83,Zbf.S),(109,ZdD.S)])) Tryz.f74 (.seq .u (.seq .u (.seq .u (.seq .u (.seq (.seq (.reg [.bool] [(36,.sc .bool)]) .u) (.seq .u (.seq .u (.joinS ⟨[.str,.int .i64,.int .i64,.int .i64,.str,.int .i64,.int .i64,.int .i64,.int .i64,.int .i64,.int .i64,.str,.str,.int .i64,.int .i64,.int .i64,.int .i64,.int .i64,.int .i64,.str],[(0,.sc .str),(2,.ptr 0 0),(5,.sc (.int .i64)),(6,.sc (.int .i64)),(7,.sc (.int .i64)),(9,.ptr 1 0)],[.box [.sc .str,.sc (.int .i64),.sc (.int .i64),.sc (.int .i64),.sc (.int .i64),.sc (.int .i64),.sc (.int .i64),.sc .str],.box [.sc .str,.sc (.int .i64),.sc (.int .i64),.sc (.int .i64),.sc (.int .i64),.sc (.int .i64),.sc (.int .i64),.sc .str]]⟩ (.seq .u (.blk (.seq .u (.cond .u (.seq .u (.cond (.seq .u (.seq (.seq (.reg [.bool] [(74,.sc .bool)]) .u) .u)) .u)))))) (.seq (.seq (.reg [.bool] [(89,.sc .bool)]) .u) .u))))))))) ZdG.S d=ZdG.S.F d:=fun _=>by kernel_rfl
theorem ZdG.sound:Zah Tryz.prog C0 74 ZdG.S:=sE Za4 ZdG.ev (Zai ⟨ZbE.sound,Zea.sound,Zbc.sound,Zbf.sound,ZdD.sound,trivial⟩) Tryz.func74
def joinS.S:ZaI:=ZuH
theorem joinS.sound:Zah Tryz.prog C0 25 joinS.S:=ZvZ Tryz.lays156 Tryz.Builder_Extra_156 Tryz.func25 (by kernel_rfl) (by kernel_rfl)
def Zbu.S:ZaI:=⟨0,[.sc (.list [.str,.int .i64,.int .i64,.int .i64,.int .i64,.int .i64,.int .i64,.str])],[],[.list [.str,.int .i64,.int .i64,.int .i64,.int .i64,.int .i64,.int .i64,.str]],⟨[.list [.str]],.full 0,[.arr [.str]]⟩,
 fun (list:List (Str×Int×Int×Int×Int×Int×Int×Str))=>Zbu list⟩
theorem Zbu.ev:∀d,Za2 C0 (hnd (tab [])) Tryz.f60 (.seq .u (.seq .u (.seq (.seq .u (.blk (.loop ⟨[.list [.str,.int .i64,.int .i64,.int .i64,.int .i64,.int .i64,.int .i64,.str],.int .i64,.int .i64,.list [.str]],[(3,.full 0),(7,.sc (.list [.str,.int .i64,.int .i64,.int .i64,.int .i64,.int .i64,.int .i64,.str])),(8,.sc (.int .i64)),(9,.sc (.int .i64))],[.arr [.str]]⟩ (fun ((t,t1,t2,out):(List (Str×Int×Int×Int×Int×Int×Int×Str))×Int×Int×List Str)=>(t1-t2).toNat+1) 0 ⟨[.list [.str]],[(3,.full 0)],[.arr [.str]]⟩ .u))) .u))) Zbu.S d=Zbu.S.F d:=fun _=>by kernel_rfl
theorem Zbu.sound:Zah Tryz.prog C0 60 Zbu.S:=sE Za4 Zbu.ev (Zai trivial) Tryz.func60
def Zee.S:ZaI:=⟨0,[.sc (.list [.str,.int .i64,.int .i64,.int .i64,.int .i64,.int .i64,.int .i64,.str])],[],[.list [.str,.int .i64,.int .i64,.int .i64,.int .i64,.int .i64,.int .i64,.str]],⟨[.bool],.sc .bool,[]⟩,
 fun (list:List (Str×Int×Int×Int×Int×Int×Int×Str))=>Zee list⟩
theorem Zee.ev:∀d,Za2 C0 (hnd (tab [(58,ZbE.S),(59,ZcG.S),(60,Zbu.S)])) Tryz.f23 (.seq .u (.seq (.seq .u (.blk (.loopS ⟨[.list [.str,.int .i64,.int .i64,.int .i64,.int .i64,.int .i64,.int .i64,.str],.list [.str,.int .i64,.int .i64,.int .i64,.int .i64,.int .i64,.int .i64,.str],.int .i64,.int .i64],[(0,.sc (.list [.str,.int .i64,.int .i64,.int .i64,.int .i64,.int .i64,.int .i64,.str])),(5,.sc (.list [.str,.int .i64,.int .i64,.int .i64,.int .i64,.int .i64,.int .i64,.str])),(6,.sc (.int .i64)),(7,.sc (.int .i64))],[]⟩ (fun ((list1,t,t1,t2):(List (Str×Int×Int×Int×Int×Int×Int×Str))×(List (Str×Int×Int×Int×Int×Int×Int×Str))×Int×Int)=>(t1-t2).toNat+1) 0 ⟨[.list [.str,.int .i64,.int .i64,.int .i64,.int .i64,.int .i64,.int .i64,.str]],[(0,.sc (.list [.str,.int .i64,.int .i64,.int .i64,.int .i64,.int .i64,.int .i64,.str]))],[]⟩ .u))) .u)) Zee.S d=Zee.S.F d:=fun _=>by kernel_rfl
theorem Zee.sound:Zah Tryz.prog C0 23 Zee.S:=sE Za4 Zee.ev (Zai ⟨ZbE.sound,ZcG.sound,Zbu.sound,trivial⟩) Tryz.func23
def ZbL.S:ZaI:=⟨0,[.sc (.list [.str])],[],[.list [.str]],⟨[.str],.sc .str,[]⟩,
 fun (locals:List Str)=>ZbL locals⟩
theorem ZbL.ev:∀d,Za2 C0 (hnd (tab [(63,Zbc.S),(64,Zbz.S)])) Tryz.f26 (.seq .u (.seq .u (.seq .u (.seq (.seq .u (.blk (.loop ⟨[.list [.str],.str,.int .i64,.list [.str],.int .i64,.int .i64],[(0,.sc (.list [.str])),(3,.sc .str),(4,.sc (.int .i64)),(9,.sc (.list [.str])),(10,.sc (.int .i64)),(11,.sc (.int .i64))],[]⟩ (fun ((locals1,heads,at_,t,t1,t2):List Str×Str×Int×List Str×Int×Int)=>(t1-t2).toNat+1) 0 ⟨[.list [.str],.str,.int .i64],[(0,.sc (.list [.str])),(3,.sc .str),(4,.sc (.int .i64))],[]⟩ .u))) .u)))) ZbL.S d=ZbL.S.F d:=fun _=>by kernel_rfl
theorem ZbL.sound:Zah Tryz.prog C0 26 ZbL.S:=sE Za4 ZbL.ev (Zai ⟨Zbc.sound,Zbz.sound,trivial⟩) Tryz.func26
def ZbH.S:ZaI:=⟨0,[.sc (.list [.str,.int .i64,.int .i64,.int .i64,.int .i64,.int .i64,.int .i64,.str])],[],[.list [.str,.int .i64,.int .i64,.int .i64,.int .i64,.int .i64,.int .i64,.str]],⟨[.str],.sc .str,[]⟩,
 fun (list:List (Str×Int×Int×Int×Int×Int×Int×Str))=>ZbH list⟩
theorem ZbH.ev:∀d,Za2 C0 (hnd (tab [(23,Zee.S),(24,ZdF.S),(25,joinS.S),(26,ZbL.S)])) Tryz.f17 (.seq .u (.seq .u (.seq .u (.seq (.seq .u (.blk (.loop ⟨[.list [.str,.int .i64,.int .i64,.int .i64,.int .i64,.int .i64,.int .i64,.str],.int .i64,.int .i64,.list [.str]],[(3,.full 0),(10,.sc (.list [.str,.int .i64,.int .i64,.int .i64,.int .i64,.int .i64,.int .i64,.str])),(11,.sc (.int .i64)),(12,.sc (.int .i64))],[.arr [.str]]⟩ (fun ((t,t1,t2,locals):(List (Str×Int×Int×Int×Int×Int×Int×Str))×Int×Int×List Str)=>(t1-t2).toNat+1) 0 ⟨[.list [.str]],[(3,.full 0)],[.arr [.str]]⟩ .u))) .u)))) ZbH.S d=ZbH.S.F d:=fun _=>by kernel_rfl
theorem ZbH.sound:Zah Tryz.prog C0 17 ZbH.S:=sE Za4 ZbH.ev (Zai ⟨Zee.sound,ZdF.sound,joinS.sound,ZbL.sound,trivial⟩) Tryz.func17
def Zbv.S:ZaI:=⟨0,[.sc .str],[],[.str],⟨[.bool,.list [.str,.int .i64,.int .i64,.int .i64,.int .i64,.int .i64,.int .i64,.str]],.tup [.full 0,.sc .bool],[.arr [.str,.int .i64,.int .i64,.int .i64,.int .i64,.int .i64,.int .i64,.str]]⟩,
 fun (text:Str)=>Zbv text⟩
theorem Zbv.ev:∀d,Za2 C0 (hnd (tab [(23,Zee.S),(26,ZbL.S),(74,ZdG.S)])) Tryz.f33 (.seq .u (.seq .u (.seq .u (.seq .u (.seq (.blk (.loop ⟨[.str,.list [.str,.int .i64,.int .i64,.int .i64,.int .i64,.int .i64,.int .i64,.str],.list [.str]],[(4,.full 0),(5,.full 1),(6,.sc .str)],[.arr [.str,.int .i64,.int .i64,.int .i64,.int .i64,.int .i64,.int .i64,.str],.arr [.str]]⟩ (fun ((rest,out,locals):Str×(List (Str×Int×Int×Int×Int×Int×Int×Str))×List Str)=>(6-(out.length:Int)).toNat+1) 0 ⟨[.str,.list [.str,.int .i64,.int .i64,.int .i64,.int .i64,.int .i64,.int .i64,.str],.list [.str]],[(4,.full 0),(5,.full 1),(6,.sc .str)],[.arr [.str,.int .i64,.int .i64,.int .i64,.int .i64,.int .i64,.int .i64,.str],.arr [.str]]⟩ .u)) (.seq (.seq (.reg [.bool] [(45,.sc .bool)]) .u) .u)))))) Zbv.S d=Zbv.S.F d:=fun _=>by kernel_rfl
theorem Zbv.sound:Zah Tryz.prog C0 33 Zbv.S:=sE Za4 Zbv.ev (Zai ⟨Zee.sound,ZbL.sound,ZdG.sound,trivial⟩) Tryz.func33
def Zb8.S:ZaI:=⟨0,[.sc .str,.sc .str],[],[.str,.str],⟨[.str,.bool],.tup [.sc .str,.sc .bool],[]⟩,
 fun ((text,name):Str×Str)=>Zb8 text name⟩
theorem Zb8.ev:∀d,Za2 C0 (hnd (tab [(33,Zbv.S)])) Tryz.f36 (.seq .u (.seq .u (.seq (.seq .u (.blk (.loopS ⟨[.str,.int .i64,.int .i64,.list [.str,.int .i64,.int .i64,.int .i64,.int .i64,.int .i64,.int .i64,.str]],[(1,.sc .str),(15,.full 0),(16,.sc (.int .i64)),(17,.sc (.int .i64))],[.arr [.str,.int .i64,.int .i64,.int .i64,.int .i64,.int .i64,.int .i64,.str]]⟩ (fun ((name1,t,t1,o):Str×Int×Int×List (Str×Int×Int×Int×Int×Int×Int×Str))=>(t-t1).toNat+1) 0 ⟨[],[],[]⟩ .u))) .u))) Zb8.S d=Zb8.S.F d:=fun _=>by kernel_rfl
theorem Zb8.sound:Zah Tryz.prog C0 36 Zb8.S:=sE Za4 Zb8.ev (Zai ⟨Zbv.sound,trivial⟩) Tryz.func36
def ZdI.S:ZaI:=⟨0,[.full 0,.agg [.sc .str,.sc (.int .i64),.sc (.int .i64),.sc (.int .i64),.sc (.int .i64),.sc (.int .i64),.sc (.int .i64),.sc .str]],[.arr [.str,.int .i64,.int .i64,.int .i64,.int .i64,.int .i64,.int .i64,.str]],[.str,.int .i64,.int .i64,.int .i64,.int .i64,.int .i64,.int .i64,.str,.list [.str,.int .i64,.int .i64,.int .i64,.int .i64,.int .i64,.int .i64,.str]],⟨[.int .i64,.list [.str,.int .i64,.int .i64,.int .i64,.int .i64,.int .i64,.int .i64,.str]],.tup [.full 0,.sc (.int .i64)],[.arr [.str,.int .i64,.int .i64,.int .i64,.int .i64,.int .i64,.int .i64,.str]]⟩,
 fun ((name,y,mo,d,h,mi,sec,text,list):Str×Int×Int×Int×Int×Int×Int×Str×List (Str×Int×Int×Int×Int×Int×Int×Str))=>ZdI name y mo d h mi sec text list⟩
theorem ZdI.ev:∀d,Za2 C0 (hnd (tab [(58,ZbE.S),(59,ZcG.S),(60,Zbu.S)])) Tryz.f69 .u ZdI.S d=ZdI.S.F d:=fun _=>by kernel_rfl
theorem ZdI.sound:Zah Tryz.prog C0 69 ZdI.S:=sE Za4 ZdI.ev (Zai ⟨ZbE.sound,ZcG.sound,Zbu.sound,trivial⟩) Tryz.func69
def ZkW.S:ZaI:=⟨1,[.agg [.sc .str,.sc (.int .i64),.sc (.int .i64),.sc (.int .i64),.sc (.int .i64),.sc (.int .i64),.sc (.int .i64),.sc .str],.ptr 0 0],[.box [.sc .str]],[.str,.int .i64,.int .i64,.int .i64,.int .i64,.int .i64,.int .i64,.str,.str],⟨[.bool,.str],.sc .bool,[.box [.sc .str]]⟩,
 fun ((ename,ey,emo,ed,eh,emi,esec,etext,name):Str×Int×Int×Int×Int×Int×Int×Str×Str)=>ZkW ename ey emo ed eh emi esec etext name⟩
theorem ZkW.ev:∀d,Za2 C0 (hnd (tab [])) Tryz.f106 .u ZkW.S d=ZkW.S.F d:=fun _=>by kernel_rfl
theorem ZkW.sound:Zah Tryz.prog C0 106 ZkW.S:=sE Za4 ZkW.ev (Zai trivial) Tryz.func106
def Za7.S:ZaI:=⟨1,[.sc (.list [.str,.int .i64,.int .i64,.int .i64,.int .i64,.int .i64,.int .i64,.str]),.fn 106 [] [.ptr 0 0]],[.box [.sc .str]],[.list [.str,.int .i64,.int .i64,.int .i64,.int .i64,.int .i64,.int .i64,.str],.str],⟨[.int .i64,.str],.sc (.int .i64),[.box [.sc .str]]⟩,
 fun ((list,name):(List (Str×Int×Int×Int×Int×Int×Int×Str))×Str)=>Za7 list name⟩
theorem Za7.ev:∀d,Za2 C0 (hnd (tab [(106,ZkW.S)])) Tryz.f105 (.seq .u (.seq (.seq .u (.blk (.loopS ⟨[.list [.str,.int .i64,.int .i64,.int .i64,.int .i64,.int .i64,.int .i64,.str],.int .i64,.int .i64,.str],[(0,.sc (.list [.str,.int .i64,.int .i64,.int .i64,.int .i64,.int .i64,.int .i64,.str])),(1,.fn 106 [] [.ptr 0 0]),(7,.sc (.int .i64)),(8,.sc (.int .i64))],[.box [.sc .str]]⟩ (fun ((s,t,t1,o):(List (Str×Int×Int×Int×Int×Int×Int×Str))×Int×Int×Str)=>(t-t1).toNat+1) 0 ⟨[.str],[],[.box [.sc .str]]⟩ .u))) .u)) Za7.S d=Za7.S.F d:=fun _=>by kernel_rfl
theorem Za7.sound:Zah Tryz.prog C0 105 Za7.S:=sE Za4 Za7.ev (Zai ⟨ZkW.sound,trivial⟩) Tryz.func105
def find.S:ZaI:=⟨0,[.sc (.list [.str,.int .i64,.int .i64,.int .i64,.int .i64,.int .i64,.int .i64,.str]),.sc .str],[],[.list [.str,.int .i64,.int .i64,.int .i64,.int .i64,.int .i64,.int .i64,.str],.str],⟨[.int .i64],.sc (.int .i64),[]⟩,
 fun ((list,name):(List (Str×Int×Int×Int×Int×Int×Int×Str))×Str)=>find list name⟩
theorem find.ev:∀d,Za2 C0 (hnd (tab [(105,Za7.S)])) Tryz.f71 .u find.S d=find.S.F d:=fun _=>by kernel_rfl
theorem find.sound:Zah Tryz.prog C0 71 find.S:=sE Za4 find.ev (Zai ⟨Za7.sound,trivial⟩) Tryz.func71
def Zh8.S:ZaI:=Zb6
theorem Zh8.sound:Zah Tryz.prog C0 77 Zh8.S:=Zsq (ρ:=Zz5) ZAJ Tryz.sizeOf55 Tryz.underlying55 Tryz.zeroValue55 (by kernel_rfl) (List.all_eq_true.1 (by kernel_rfl)) Tryz.func77 (by kernel_rfl) (by kernel_rfl)
def ZeU.S:ZaI:=⟨1,[.full 1,.ptr 0 0],[.box [.sc .str,.sc (.int .i64),.sc (.int .i64),.sc (.int .i64),.sc (.int .i64),.sc (.int .i64),.sc (.int .i64),.sc .str],.arr [.str,.int .i64,.int .i64,.int .i64,.int .i64,.int .i64,.int .i64,.str]],[.str,.int .i64,.int .i64,.int .i64,.int .i64,.int .i64,.int .i64,.str,.list [.str,.int .i64,.int .i64,.int .i64,.int .i64,.int .i64,.int .i64,.str]],⟨[.int .i64,.str,.int .i64,.int .i64,.int .i64,.int .i64,.int .i64,.int .i64,.str,.list [.str,.int .i64,.int .i64,.int .i64,.int .i64,.int .i64,.int .i64,.str]],.tup [.full 1,.sc (.int .i64)],[.box [.sc .str,.sc (.int .i64),.sc (.int .i64),.sc (.int .i64),.sc (.int .i64),.sc (.int .i64),.sc (.int .i64),.sc .str],.arr [.str,.int .i64,.int .i64,.int .i64,.int .i64,.int .i64,.int .i64,.str]]⟩,
 fun ((name,y,mo,d,h,mi,sec,text,list):Str×Int×Int×Int×Int×Int×Int×Str×List (Str×Int×Int×Int×Int×Int×Int×Str))=>ZeU name y mo d h mi sec text list⟩
theorem ZeU.ev:∀d,Za2 C0 (hnd (tab [(69,ZdI.S)])) Tryz.f68 .u ZeU.S d=ZeU.S.F d:=fun _=>by kernel_rfl
theorem ZeU.sound:Zah Tryz.prog C0 68 ZeU.S:=sE Za4 ZeU.ev (Zai ⟨ZdI.sound,trivial⟩) Tryz.func68
def ZdP.S:ZaI:=⟨1,[.full 1,.ptr 0 0],[.box [.sc .str,.sc (.int .i64),.sc (.int .i64),.sc (.int .i64),.sc (.int .i64),.sc (.int .i64),.sc (.int .i64),.sc .str],.arr [.str,.int .i64,.int .i64,.int .i64,.int .i64,.int .i64,.int .i64,.str]],[.str,.int .i64,.int .i64,.int .i64,.int .i64,.int .i64,.int .i64,.str,.list [.str,.int .i64,.int .i64,.int .i64,.int .i64,.int .i64,.int .i64,.str]],⟨[.int .i64,.str,.int .i64,.int .i64,.int .i64,.int .i64,.int .i64,.int .i64,.str,.list [.str,.int .i64,.int .i64,.int .i64,.int .i64,.int .i64,.int .i64,.str]],.tup [.full 1,.sc (.int .i64)],[.box [.sc .str,.sc (.int .i64),.sc (.int .i64),.sc (.int .i64),.sc (.int .i64),.sc (.int .i64),.sc (.int .i64),.sc .str],.arr [.str,.int .i64,.int .i64,.int .i64,.int .i64,.int .i64,.int .i64,.str]]⟩,
 fun ((name,y,mo,d,h,mi,sec,text,list):Str×Int×Int×Int×Int×Int×Int×Str×List (Str×Int×Int×Int×Int×Int×Int×Str))=>ZdP name y mo d h mi sec text list⟩
theorem ZdP.ev:∀d,Za2 C0 (hnd (tab [(58,ZbE.S),(71,find.S)])) Tryz.f70 .u ZdP.S d=ZdP.S.F d:=fun _=>by kernel_rfl
theorem ZdP.sound:Zah Tryz.prog C0 70 ZdP.S:=sE Za4 ZdP.ev (Zai ⟨ZbE.sound,find.sound,trivial⟩) Tryz.func70
end Ev
end
section
open Go Go.Proofs
set_option maxRecDepth 100000
namespace Ev
set_option maxHeartbeats 1000000
def ZdT.S:ZaI:=⟨1,[.full 1,.ptr 0 0],[.box [.sc .str],.arr [.str,.int .i64,.int .i64,.int .i64,.int .i64,.int .i64,.int .i64,.str]],[.str,.list [.str,.int .i64,.int .i64,.int .i64,.int .i64,.int .i64,.int .i64,.str]],⟨[.int .i64,.str,.list [.str,.int .i64,.int .i64,.int .i64,.int .i64,.int .i64,.int .i64,.str]],.tup [.full 1,.sc (.int .i64)],[.box [.sc .str],.arr [.str,.int .i64,.int .i64,.int .i64,.int .i64,.int .i64,.int .i64,.str]]⟩,
 fun ((name,list):Str×List (Str×Int×Int×Int×Int×Int×Int×Str))=>ZdT name list⟩
theorem ZdT.ev:∀d,Za2 C0 (hnd (tab [(71,find.S),(77,Zh8.S)])) Tryz.f76 .u ZdT.S d=ZdT.S.F d:=fun _=>by kernel_rfl
theorem ZdT.sound:Zah Tryz.prog C0 76 ZdT.S:=sE Za4 ZdT.ev (Zai ⟨find.sound,Zh8.sound,trivial⟩) Tryz.func76
def ZdQ.S:ZaI:=⟨2,[.full 2,.ptr 0 0,.ptr 1 0],[.box [.sc .str],.box [.sc .str],.arr [.str,.int .i64,.int .i64,.int .i64,.int .i64,.int .i64,.int .i64,.str]],[.str,.str,.list [.str,.int .i64,.int .i64,.int .i64,.int .i64,.int .i64,.int .i64,.str]],⟨[.int .i64,.str,.str,.list [.str,.int .i64,.int .i64,.int .i64,.int .i64,.int .i64,.int .i64,.str]],.tup [.full 2,.sc (.int .i64)],[.box [.sc .str],.box [.sc .str],.arr [.str,.int .i64,.int .i64,.int .i64,.int .i64,.int .i64,.int .i64,.str]]⟩,
 fun ((name,to_,list):Str×Str×List (Str×Int×Int×Int×Int×Int×Int×Str))=>ZdQ name to_ list⟩
theorem ZdQ.ev:∀d,Za2 C0 (hnd (tab [(59,ZcG.S),(60,Zbu.S),(71,find.S),(73,ZaN.S)])) Tryz.f72 .u ZdQ.S d=ZdQ.S.F d:=fun _=>by kernel_rfl
theorem ZdQ.sound:Zah Tryz.prog C0 72 ZdQ.S:=sE Za4 ZdQ.ev (Zai ⟨ZcG.sound,Zbu.sound,find.sound,ZaN.sound,trivial⟩) Tryz.func72
def ZcU.S:ZaI:=⟨1,[.sc .str,.fn 68 [] [.ptr 0 0]],[.box [.sc .str,.sc (.int .i64),.sc (.int .i64),.sc (.int .i64),.sc (.int .i64),.sc (.int .i64),.sc (.int .i64),.sc .str]],[.str,.str,.int .i64,.int .i64,.int .i64,.int .i64,.int .i64,.int .i64,.str],⟨[.str,.int .i64,.str,.int .i64,.int .i64,.int .i64,.int .i64,.int .i64,.int .i64,.str],.tup [.sc .str,.sc (.int .i64)],[.box [.sc .str,.sc (.int .i64),.sc (.int .i64),.sc (.int .i64),.sc (.int .i64),.sc (.int .i64),.sc (.int .i64),.sc .str]]⟩,
 fun ((text,name,y,mo,d,h,mi,sec,text1):Str×Str×Int×Int×Int×Int×Int×Int×Str)=>ZcU text name y mo d h mi sec text1⟩
theorem ZcU.ev:∀d,Za2 C0 (hnd (tab [(17,ZbH.S),(33,Zbv.S),(68,ZeU.S)])) Tryz.f67 .u ZcU.S d=ZcU.S.F d:=fun _=>by kernel_rfl
theorem ZcU.sound:Zah Tryz.prog C0 67 ZcU.S:=sE Za4 ZcU.ev (Zai ⟨ZbH.sound,Zbv.sound,ZeU.sound,trivial⟩) Tryz.func67
def Zcb.S:ZaI:=⟨1,[.sc .str,.fn 70 [] [.ptr 0 0]],[.box [.sc .str,.sc (.int .i64),.sc (.int .i64),.sc (.int .i64),.sc (.int .i64),.sc (.int .i64),.sc (.int .i64),.sc .str]],[.str,.str,.int .i64,.int .i64,.int .i64,.int .i64,.int .i64,.int .i64,.str],⟨[.str,.int .i64,.str,.int .i64,.int .i64,.int .i64,.int .i64,.int .i64,.int .i64,.str],.tup [.sc .str,.sc (.int .i64)],[.box [.sc .str,.sc (.int .i64),.sc (.int .i64),.sc (.int .i64),.sc (.int .i64),.sc (.int .i64),.sc (.int .i64),.sc .str]]⟩,
 fun ((text,name,y,mo,d,h,mi,sec,text1):Str×Str×Int×Int×Int×Int×Int×Int×Str)=>Zcb text name y mo d h mi sec text1⟩
theorem Zcb.ev:∀d,Za2 C0 (hnd (tab [(17,ZbH.S),(33,Zbv.S),(70,ZdP.S)])) Tryz.f67 .u Zcb.S d=Zcb.S.F d:=fun _=>by kernel_rfl
theorem Zcb.sound:Zah Tryz.prog C0 67 Zcb.S:=sE Za4 Zcb.ev (Zai ⟨ZbH.sound,Zbv.sound,ZdP.sound,trivial⟩) Tryz.func67
def Zcd.S:ZaI:=⟨1,[.sc .str,.fn 76 [] [.ptr 0 0]],[.box [.sc .str]],[.str,.str],⟨[.str,.int .i64,.str],.tup [.sc .str,.sc (.int .i64)],[.box [.sc .str]]⟩,
 fun ((text,name):Str×Str)=>Zcd text name⟩
theorem Zcd.ev:∀d,Za2 C0 (hnd (tab [(17,ZbH.S),(33,Zbv.S),(76,ZdT.S)])) Tryz.f67 .u Zcd.S d=Zcd.S.F d:=fun _=>by kernel_rfl
theorem Zcd.sound:Zah Tryz.prog C0 67 Zcd.S:=sE Za4 Zcd.ev (Zai ⟨ZbH.sound,Zbv.sound,ZdT.sound,trivial⟩) Tryz.func67
def Zcc.S:ZaI:=⟨2,[.sc .str,.fn 72 [] [.ptr 0 0,.ptr 1 0]],[.box [.sc .str],.box [.sc .str]],[.str,.str,.str],⟨[.str,.int .i64,.str,.str],.tup [.sc .str,.sc (.int .i64)],[.box [.sc .str],.box [.sc .str]]⟩,
 fun ((text,name,to_):Str×Str×Str)=>Zcc text name to_⟩
theorem Zcc.ev:∀d,Za2 C0 (hnd (tab [(17,ZbH.S),(33,Zbv.S),(72,ZdQ.S)])) Tryz.f67 .u Zcc.S d=Zcc.S.F d:=fun _=>by kernel_rfl
theorem Zcc.sound:Zah Tryz.prog C0 67 Zcc.S:=sE Za4 Zcc.ev (Zai ⟨ZbH.sound,Zbv.sound,ZdQ.sound,trivial⟩) Tryz.func67
def Zgg.S:ZaI:=⟨0,[.sc .str,.agg [.sc .str,.sc (.int .i64),.sc (.int .i64),.sc (.int .i64),.sc (.int .i64),.sc (.int .i64),.sc (.int .i64),.sc .str]],[],[.str,.str,.int .i64,.int .i64,.int .i64,.int .i64,.int .i64,.int .i64,.str],⟨[.str,.int .i64],.tup [.sc .str,.sc (.int .i64)],[]⟩,
 fun ((text,ename,ey,emo,ed,eh,emi,esec,etext):Str×Str×Int×Int×Int×Int×Int×Int×Str)=>Zgg text ename ey emo ed eh emi esec etext⟩
theorem Zgg.ev:∀d,Za2 C0 (hnd (tab [(67,ZcU.S),(67,Zcb.S),(67,Zcd.S),(67,Zcc.S)])) Tryz.f30 .u Zgg.S d=Zgg.S.F d:=fun _=>by kernel_rfl
theorem Zgg.sound:Zah Tryz.prog C0 30 Zgg.S:=sE Za4 Zgg.ev (Zai ⟨ZcU.sound,Zcb.sound,Zcd.sound,Zcc.sound,trivial⟩) Tryz.func30
def Zev.S:ZaI:=⟨0,[.sc .str,.agg [.sc .str,.sc (.int .i64),.sc (.int .i64),.sc (.int .i64),.sc (.int .i64),.sc (.int .i64),.sc (.int .i64),.sc .str]],[],[.str,.str,.int .i64,.int .i64,.int .i64,.int .i64,.int .i64,.int .i64,.str],⟨[.str,.int .i64],.tup [.sc .str,.sc (.int .i64)],[]⟩,
 fun ((text,ename,ey,emo,ed,eh,emi,esec,etext):Str×Str×Int×Int×Int×Int×Int×Int×Str)=>Zev text ename ey emo ed eh emi esec etext⟩
theorem Zev.ev:∀d,Za2 C0 (hnd (tab [(67,ZcU.S),(67,Zcb.S),(67,Zcd.S),(67,Zcc.S)])) Tryz.f31 .u Zev.S d=Zev.S.F d:=fun _=>by kernel_rfl
theorem Zev.sound:Zah Tryz.prog C0 31 Zev.S:=sE Za4 Zev.ev (Zai ⟨ZcU.sound,Zcb.sound,Zcd.sound,Zcc.sound,trivial⟩) Tryz.func31
def Zex.S:ZaI:=⟨0,[.sc .str,.sc .str],[],[.str,.str],⟨[.str,.int .i64],.tup [.sc .str,.sc (.int .i64)],[]⟩,
 fun ((text,name):Str×Str)=>Zex text name⟩
theorem Zex.ev:∀d,Za2 C0 (hnd (tab [(67,ZcU.S),(67,Zcb.S),(67,Zcd.S),(67,Zcc.S)])) Tryz.f35 .u Zex.S d=Zex.S.F d:=fun _=>by kernel_rfl
theorem Zex.sound:Zah Tryz.prog C0 35 Zex.S:=sE Za4 Zex.ev (Zai ⟨ZcU.sound,Zcb.sound,Zcd.sound,Zcc.sound,trivial⟩) Tryz.func35
def Zew.S:ZaI:=⟨0,[.sc .str,.sc .str,.sc .str],[],[.str,.str,.str],⟨[.str,.int .i64],.tup [.sc .str,.sc (.int .i64)],[]⟩,
 fun ((text,name,to_):Str×Str×Str)=>Zew text name to_⟩
theorem Zew.ev:∀d,Za2 C0 (hnd (tab [(67,ZcU.S),(67,Zcb.S),(67,Zcd.S),(67,Zcc.S)])) Tryz.f32 .u Zew.S d=Zew.S.F d:=fun _=>by kernel_rfl
theorem Zew.sound:Zah Tryz.prog C0 32 Zew.S:=sE Za4 Zew.ev (Zai ⟨ZcU.sound,Zcb.sound,Zcd.sound,Zcc.sound,trivial⟩) Tryz.func32
def itoa.S:ZaI:=ZuI
theorem itoa.sound:Zah Tryz.prog C0 34 itoa.S:=Zv0 Tryz.laysM171 (g:=5) (by kernel_rfl) (by kernel_rfl) Tryz.func34 (by kernel_rfl) (by kernel_rfl)
def Zeg.S:ZaI:=⟨0,[.sc .str,.cstr [10]],[],[.str],⟨[.int .i64],.sc (.int .i64),[]⟩,
 fun (s:Str)=>Zeg s⟩
theorem Zeg.ev:∀d,Za2 C0 (hnd (tab [(154,Zbm.S)])) Tryz.f104 (.seq .u (.seq .u (.seq (.blk (.seq (.reg [.bool] [(16,.sc .bool)]) .u)) .u))) Zeg.S d=Zeg.S.F d:=fun _=>by kernel_rfl
theorem Zeg.sound:Zah Tryz.prog C0 104 Zeg.S:=sE Za4 Zeg.ev (Zai ⟨Zbm.sound,trivial⟩) Tryz.func104
def ZdL.S:ZaI:=⟨0,[.sc .str,.cstr [32]],[],[.str],⟨[.int .i64],.sc (.int .i64),[]⟩,
 fun (s:Str)=>ZdL s⟩
theorem ZdL.ev:∀d,Za2 C0 (hnd (tab [(154,Zbm.S)])) Tryz.f104 (.seq .u (.seq .u (.seq (.blk (.seq (.reg [.bool] [(16,.sc .bool)]) .u)) .u))) ZdL.S d=ZdL.S.F d:=fun _=>by kernel_rfl
theorem ZdL.sound:Zah Tryz.prog C0 104 ZdL.S:=sE Za4 ZdL.ev (Zai ⟨Zbm.sound,trivial⟩) Tryz.func104
def Zf9.S:ZaI:=⟨0,[.sc .str,.cstr [10]],[],[.str],⟨[.str,.str,.bool],.tup [.sc .str,.sc .str,.sc .bool],[]⟩,
 fun (s:Str)=>Zf9 s⟩
theorem Zf9.ev:∀d,Za2 C0 (hnd (tab [(104,Zdt.S),(104,Zeg.S),(104,ZdL.S)])) Tryz.f66 .u Zf9.S d=Zf9.S.F d:=fun _=>by kernel_rfl
theorem Zf9.sound:Zah Tryz.prog C0 66 Zf9.S:=sE Za4 Zf9.ev (Zai ⟨Zdt.sound,Zeg.sound,ZdL.sound,trivial⟩) Tryz.func66
def ZfA.S:ZaI:=⟨0,[.sc .str,.cstr [32]],[],[.str],⟨[.str,.str,.bool],.tup [.sc .str,.sc .str,.sc .bool],[]⟩,
 fun (s:Str)=>ZfA s⟩
theorem ZfA.ev:∀d,Za2 C0 (hnd (tab [(104,Zdt.S),(104,Zeg.S),(104,ZdL.S)])) Tryz.f66 .u ZfA.S d=ZfA.S.F d:=fun _=>by kernel_rfl
theorem ZfA.sound:Zah Tryz.prog C0 66 ZfA.S:=sE Za4 ZfA.ev (Zai ⟨Zdt.sound,Zeg.sound,ZdL.sound,trivial⟩) Tryz.func66
def Znz.S:ZaI:=⟨0,[.sc .str,.cstr [10]],[],[.str],⟨[.str,.str,.bool],.tup [.sc .str,.sc .str,.sc .bool],[]⟩,
 fun (s:Str)=>Znz s⟩
theorem Znz.ev:∀d,Za2 C0 (hnd (tab [(66,Zf9.S),(66,ZfA.S)])) Tryz.f29 .u Znz.S d=Znz.S.F d:=fun _=>by kernel_rfl
theorem Znz.sound:Zah Tryz.prog C0 29 Znz.S:=sE Za4 Znz.ev (Zai ⟨Zf9.sound,ZfA.sound,trivial⟩) Tryz.func29
def Zje.S:ZaI:=⟨0,[.sc .str,.cstr [32]],[],[.str],⟨[.str,.str,.bool],.tup [.sc .str,.sc .str,.sc .bool],[]⟩,
 fun (s:Str)=>Zje s⟩
theorem Zje.ev:∀d,Za2 C0 (hnd (tab [(66,Zf9.S),(66,ZfA.S)])) Tryz.f29 .u Zje.S d=Zje.S.F d:=fun _=>by kernel_rfl
theorem Zje.sound:Zah Tryz.prog C0 29 Zje.S:=sE Za4 Zje.ev (Zai ⟨Zf9.sound,ZfA.sound,trivial⟩) Tryz.func29
def ZhX.S:ZaI:=⟨2,[.sc .str,.sc (.int .i64),.ptr 0 0],[.box [.ptr 1 0],.box [.sc .str]],[.str,.int .i64,.str],⟨[.str,.str],.sc .str,[.box [.ptr 1 0],.box [.sc .str]]⟩,
 fun ((text,code_,zip_):Str×Int×Str)=>ZhX text code_ zip_⟩
theorem ZhX.ev:∀d,Za2 C0 (hnd (tab [])) Tryz.f28 .u ZhX.S d=ZhX.S.F d:=fun _=>by kernel_rfl
theorem ZhX.sound:Zah Tryz.prog C0 28 ZhX.S:=sE Za4 ZhX.ev (Zai trivial) Tryz.func28
def ZlB.S:ZaI:=⟨1,[.ptr 0 0,.sc .str],[.box [.sc .str]],[.str,.str],⟨[.str,.str],.sc .str,[.box [.sc .str]]⟩,
 fun ((s,zip_):Str×Str)=>ZlB s zip_⟩
theorem ZlB.ev:∀d,Za2 C0 (hnd (tab [(28,ZhX.S),(29,Znz.S),(29,Zje.S),(30,Zgg.S),(31,Zev.S),(32,Zew.S),(33,Zbv.S),(34,itoa.S),(35,Zex.S),(36,Zb8.S),(37,crc.S),(38,Zie.S),(39,Za1.S),(40,Zc1.S)])) Tryz.f19 (.seq .u (.seq .u (.seq .u (.seq .u (.seq (.blk (.seq (.reg [.bool] [(33,.sc .bool)]) (.cond .u (.seq (.reg [.bool] [(51,.sc .bool)]) (.cond .u (.seq (.reg [.bool] [(69,.sc .bool)]) (.cond .u (.seq .u (.cond (.seq .u (.seq .u (.seq (.seq .u (.blk (.loop ⟨[.str,.int .i64,.int .i64,.str,.list [.str,.int .i64,.int .i64,.int .i64,.int .i64,.int .i64,.int .i64,.str]],[(14,.sc .str),(95,.full 1),(96,.sc (.int .i64)),(97,.sc (.int .i64))],[.box [.sc .str],.arr [.str,.int .i64,.int .i64,.int .i64,.int .i64,.int .i64,.int .i64,.str]]⟩ (fun ((out,t,t1,o,o1):Str×Int×Int×Str×List (Str×Int×Int×Int×Int×Int×Int×Str))=>(t-t1).toNat+1) 1 ⟨[.str,.str],[(14,.sc .str)],[.box [.sc .str]]⟩ .u))) .u))) (.seq .u (.cond .u (.seq (.reg [.bool] [(123,.sc .bool)]) (.cond .u (.seq .u (.cond .u (.seq .u (.cond .u (.seq .u (.cond .u (.seq (.reg [.bool] [(168,.sc .bool)]) .u)))))))))))))))))))) .u))))) ZlB.S d=ZlB.S.F d:=fun _=>by kernel_rfl
theorem ZlB.sound:Zah Tryz.prog C0 19 ZlB.S:=sE Za4 ZlB.ev (Zai ⟨ZhX.sound,Znz.sound,Zje.sound,Zgg.sound,Zev.sound,Zew.sound,Zbv.sound,itoa.sound,Zex.sound,Zb8.sound,crc.sound,Zie.sound,Za1.sound,Zc1.sound,trivial⟩) Tryz.func19
def ZbK.S:ZaI:=⟨0,[.sc (.list [.str])],[],[.list [.str]],⟨[.str],.sc .str,[]⟩,fun (lines:List Str)=>ZbK lines⟩
theorem ZbK.sound:Zah Tryz.prog C0 9 ZbK.S:=ZpL @ZbH.sound ZlB.sound
def ZeO.S:ZaI:=⟨0,[.sc (.int .i64)],[],[.int .i64],⟨[.str],.sc .str,[]⟩,
 fun (n:Int)=>ZeO n⟩
def ZeO.SF (k_:Nat):ZaI:=⟨0,[.sc (.int .i64)],[],[.int .i64],⟨[.str],.sc .str,[]⟩,
 fun (n:Int)=>ZmY k_ n⟩
theorem ZeO.ev (k_:Nat):∀d,Za2 C0 (hnd (tab [(53,ZeO.SF k_)])) Tryz.f53 .u (ZeO.SF (k_+1)) d=(ZeO.SF (k_+1)).F d:=fun _=>by kernel_rfl
theorem ZeO.soundF:∀k_:Nat,Zah Tryz.prog C0 53 (ZeO.SF k_)
 | 0=>⟨rfl,fun _ _ h=>by cases h⟩
 | k_+1=>Zac Za4 (Zai (l:=[(53,ZeO.SF k_)]) ⟨ZeO.soundF k_,trivial⟩) Tryz.func53 (by kernel_rfl) (by kernel_rfl) (by kernel_rfl) (ZeO.ev k_)
theorem ZeO.sound:Zah Tryz.prog C0 53 ZeO.S:=ZeO.soundF 30
def ZcT.S:ZaI:=⟨0,[.sc (.int .i64)],[],[.int .i64],⟨[.int .i64],.sc (.int .i64),[]⟩,
 fun (n:Int)=>ZcT n⟩
theorem ZcT.ev:∀d,Za2 C0 (hnd (tab [])) Tryz.f174 (.seq .u (.seq .u (.seq (.blk (.loop ⟨[.int .i64,.int .i64],[(0,.sc (.int .i64)),(3,.sc (.int .i64))],[]⟩ (fun ((n1,out):Int×Int)=>(n1-0).toNat+1) 0 ⟨[.int .i64],[(3,.sc (.int .i64))],[]⟩ .u)) .u))) ZcT.S d=ZcT.S.F d:=fun _=>by kernel_rfl
theorem ZcT.sound:Zah Tryz.prog C0 174 ZcT.S:=sE Za4 ZcT.ev (Zai trivial) Tryz.func174
def Zel.S:ZaI:=⟨1,[.ptr 0 0,.sc (.int .i64),.sc (.int .i64)],[.box [.full 1,.sc (.int .i64),.sc (.int .i64)],.arr [.int .u8]],[.int .i64,.int .i64,.int .i64,.int .i64,.list [.int .u8]],⟨[.int .i64,.int .i64,.list [.int .u8]],.tup [],[.box [.full 1,.sc (.int .i64),.sc (.int .i64)],.arr [.int .u8]]⟩,
 fun ((num,bits,last,fill,text):Int×Int×Int×Int×List Int)=>Zel num bits last fill text⟩
theorem Zel.ev:∀d,Za2 C0 (hnd (tab [(174,ZcT.S)])) Tryz.f140 (.seq .u (.blk (.loop ⟨[.int .i64,.int .i64,.int .i64,.int .i64,.int .i64,.list [.int .u8]],[(0,.ptr 0 0),(1,.sc (.int .i64)),(2,.sc (.int .i64)),(6,.sc (.int .i64))],[.box [.full 1,.sc (.int .i64),.sc (.int .i64)],.arr [.int .u8]]⟩ (fun ((num1,bits1,k,o,o1,o2):Int×Int×Int×Int×Int×List Int)=>(bits1-k).toNat+1) 0 ⟨[.int .i64,.int .i64,.list [.int .u8]],[],[.box [.full 1,.sc (.int .i64),.sc (.int .i64)],.arr [.int .u8]]⟩ (.seq .u (.seq (.blk (.seq .u (.seq .u (.seq .u (.seq .u (.cond (.seq (.cm [(0,[1])]) .u) .u)))))) .u))))) Zel.S d=Zel.S.F d:=fun _=>by kernel_rfl
theorem Zel.sound:Zah Tryz.prog C0 140 Zel.S:=sE Za4 Zel.ev (Zai ⟨ZcT.sound,trivial⟩) Tryz.func140
def ZdJ.S:ZaI:=⟨1,[.ptr 0 0],[.box [.full 1,.sc (.int .i64),.sc (.int .i64)],.arr [.int .u8]],[.int .i64,.int .i64,.list [.int .u8]],⟨[.int .i64,.int .i64,.list [.int .u8]],.tup [],[.box [.full 1,.sc (.int .i64),.sc (.int .i64)],.arr [.int .u8]]⟩,
 fun ((last,fill,text):Int×Int×List Int)=>ZdJ last fill text⟩
theorem ZdJ.ev:∀d,Za2 C0 (hnd (tab [(140,Zel.S)])) Tryz.f141 .u ZdJ.S d=ZdJ.S.F d:=fun _=>by kernel_rfl
theorem ZdJ.sound:Zah Tryz.prog C0 141 ZdJ.S:=sE Za4 ZdJ.ev (Zai ⟨Zel.sound,trivial⟩) Tryz.func141
def Zkv.S:ZaI:=⟨1,[.ptr 0 0],[.box [.sc .str,.sc (.int .i64),.sc .bool]],[.str,.int .i64,.bool],⟨[.int .i64,.str,.int .i64,.bool],.sc (.int .i64),[.box [.sc .str,.sc (.int .i64),.sc .bool]]⟩,
 fun ((s,at_,bad):Str×Int×Bool)=>Zkv s at_ bad⟩
theorem Zkv.ev:∀d,Za2 C0 (hnd (tab [(174,ZcT.S)])) Tryz.f208 .u Zkv.S d=Zkv.S.F d:=fun _=>by kernel_rfl
theorem Zkv.sound:Zah Tryz.prog C0 208 Zkv.S:=sE Za4 Zkv.ev (Zai ⟨ZcT.sound,trivial⟩) Tryz.func208
def Zfr.S:ZaI:=⟨1,[.ptr 0 0,.sc (.int .i64)],[.box [.sc .str,.sc (.int .i64),.sc .bool]],[.int .i64,.str,.int .i64,.bool],⟨[.int .i64,.str,.int .i64,.bool],.sc (.int .i64),[.box [.sc .str,.sc (.int .i64),.sc .bool]]⟩,
 fun ((bits,s,at_,bad):Int×Str×Int×Bool)=>Zfr bits s at_ bad⟩
theorem Zfr.ev:∀d,Za2 C0 (hnd (tab [(174,ZcT.S),(208,Zkv.S)])) Tryz.f209 (.seq .u (.seq .u (.seq (.seq .u (.blk (.loop ⟨[.int .i64,.int .i64,.int .i64,.str,.int .i64,.bool],[(0,.ptr 0 0),(1,.sc (.int .i64)),(5,.sc (.int .i64)),(6,.sc (.int .i64))],[.box [.sc .str,.sc (.int .i64),.sc .bool]]⟩ (fun ((bits1,n,k,o,o1,o2):Int×Int×Int×Str×Int×Bool)=>(bits1-k).toNat+1) 0 ⟨[.int .i64,.str,.int .i64,.bool],[(5,.sc (.int .i64))],[.box [.sc .str,.sc (.int .i64),.sc .bool]]⟩ .u))) .u))) Zfr.S d=Zfr.S.F d:=fun _=>by kernel_rfl
theorem Zfr.sound:Zah Tryz.prog C0 209 Zfr.S:=sE Za4 Zfr.ev (Zai ⟨ZcT.sound,Zkv.sound,trivial⟩) Tryz.func209
def ZcX.S:ZaI:=⟨1,[.ptr 0 0],[.box [.sc .str,.sc (.int .i64),.sc .bool]],[.str,.int .i64,.bool],⟨[.bool,.str,.int .i64,.bool],.sc .bool,[.box [.sc .str,.sc (.int .i64),.sc .bool]]⟩,
 fun ((s,at_,bad):Str×Int×Bool)=>ZcX s at_ bad⟩
theorem ZcX.ev:∀d,Za2 C0 (hnd (tab [(208,Zkv.S)])) Tryz.f199 (.seq .u (.seq .u (.seq (.blk (.loop ⟨[.int .i64,.str,.int .i64,.bool],[(0,.ptr 0 0),(3,.sc (.int .i64))],[.box [.sc .str,.sc (.int .i64),.sc .bool]]⟩ (fun ((n,o,o1,o2):Int×Str×Int×Bool)=>9) 0 ⟨[.int .i64,.str,.int .i64,.bool],[(3,.sc (.int .i64))],[.box [.sc .str,.sc (.int .i64),.sc .bool]]⟩ .u)) .u))) ZcX.S d=ZcX.S.F d:=fun _=>by kernel_rfl
theorem ZcX.sound:Zah Tryz.prog C0 199 ZcX.S:=sE Za4 ZcX.ev (Zai ⟨Zkv.sound,trivial⟩) Tryz.func199
def Zdh.S:ZaI:=⟨0,[.sc (.int .i64),.sc (.int .i64)],[],[.int .i64,.int .i64],⟨[.int .i64],.sc (.int .i64),[]⟩,
 fun ((num,bits):Int×Int)=>Zdh num bits⟩
theorem Zdh.ev:∀d,Za2 C0 (hnd (tab [])) Tryz.f213 (.seq .u (.seq .u (.seq (.seq .u (.blk (.loop ⟨[.int .i64,.int .i64,.int .i64,.int .i64],[(0,.sc (.int .i64)),(1,.sc (.int .i64)),(5,.sc (.int .i64)),(6,.sc (.int .i64))],[]⟩ (fun ((num1,bits1,n,k):Int×Int×Int×Int)=>(bits1-k).toNat+1) 0 ⟨[.int .i64],[(5,.sc (.int .i64))],[]⟩ .u))) .u))) Zdh.S d=Zdh.S.F d:=fun _=>by kernel_rfl
theorem Zdh.sound:Zah Tryz.prog C0 213 Zdh.S:=sE Za4 Zdh.ev (Zai trivial) Tryz.func213
def Zdg.S:ZaI:=⟨0,[.sc (.int .u32),.sc (.int .u8)],[],[.int .u32,.int .u8],⟨[.int .u32],.sc (.int .u32),[]⟩,
 fun ((c,b):Int×Int)=>Zdg c b⟩
theorem Zdg.ev:∀d,Za2 C0 (hnd (tab [])) Tryz.f138 (.seq .u (.seq .u (.seq (.seq .u (.blk (.loop ⟨[.int .u32,.int .i64],[(0,.sc (.int .u32)),(5,.sc (.int .i64))],[]⟩ (fun ((c1,k):Int×Int)=>(8-k).toNat+1) 0 ⟨[.int .u32],[(0,.sc (.int .u32))],[]⟩ .u))) .u))) Zdg.S d=Zdg.S.F d:=fun _=>by kernel_rfl
theorem Zdg.sound:Zah Tryz.prog C0 138 Zdg.S:=sE Za4 Zdg.ev (Zai trivial) Tryz.func138
def Zdm.S:ZaI:=⟨0,[.sc (.int .u32),.sc .str],[],[.int .u32,.str],⟨[.int .u32],.sc (.int .u32),[]⟩,
 fun ((crc_,text):Int×Str)=>Zdm crc_ text⟩
theorem Zdm.ev:∀d,Za2 C0 (hnd (tab [(138,Zdg.S)])) Tryz.f95 (.seq .u (.seq .u (.seq (.seq .u (.blk (.loop ⟨[.str,.int .u32,.int .i64],[(1,.sc .str),(5,.sc (.int .u32)),(6,.sc (.int .i64))],[]⟩ (fun ((text1,c,i):Str×Int×Int)=>((text1.length:Int)-i).toNat+1) 0 ⟨[.int .u32],[(5,.sc (.int .u32))],[]⟩ .u))) .u))) Zdm.S d=Zdm.S.F d:=fun _=>by kernel_rfl
theorem Zdm.sound:Zah Tryz.prog C0 95 Zdm.S:=sE Za4 Zdm.ev (Zai ⟨Zdg.sound,trivial⟩) Tryz.func95
def ZcR.S:ZaI:=⟨0,[.sc .str],[],[.str],⟨[.int .i64],.sc (.int .i64),[]⟩,
 fun (text:Str)=>ZcR text⟩
theorem ZcR.ev:∀d,Za2 C0 (hnd (tab [(95,Zdm.S)])) Tryz.f54 .u ZcR.S d=ZcR.S.F d:=fun _=>by kernel_rfl
theorem ZcR.sound:Zah Tryz.prog C0 54 ZcR.S:=sE Za4 ZcR.ev (Zai ⟨Zdm.sound,trivial⟩) Tryz.func54
def ZaT.S:ZaI:=⟨0,[.sc .str],[],[.str],⟨[.int .i64],.sc (.int .i64),[]⟩,
 fun (text:Str)=>ZaT text⟩
theorem ZaT.ev:∀d,Za2 C0 (hnd (tab [])) Tryz.f55 (.seq .u (.seq .u (.seq .u (.seq (.seq .u (.blk (.loop ⟨[.str,.int .i64,.int .i64,.int .i64],[(0,.sc .str),(3,.sc (.int .i64)),(4,.sc (.int .i64)),(5,.sc (.int .i64))],[]⟩ (fun ((text1,a,b,i):Str×Int×Int×Int)=>((text1.length:Int)-i).toNat+1) 0 ⟨[.int .i64,.int .i64],[(3,.sc (.int .i64)),(4,.sc (.int .i64))],[]⟩ .u))) .u)))) ZaT.S d=ZaT.S.F d:=fun _=>by kernel_rfl
theorem ZaT.sound:Zah Tryz.prog C0 55 ZaT.S:=sE Za4 ZaT.ev (Zai trivial) Tryz.func55
def ZcK.S:ZaI:=⟨0,[.sc (.list [.int .i64])],[],[.list [.int .i64]],⟨[.int .i64],.sc (.int .i64),[]⟩,
 fun (lens:List Int)=>ZcK lens⟩
theorem ZcK.ev:∀d,Za2 C0 (hnd (tab [])) Tryz.f182 (.seq .u (.seq .u (.seq (.seq .u (.blk (.loop ⟨[.list [.int .i64],.int .i64,.int .i64],[(0,.sc (.list [.int .i64])),(3,.sc (.int .i64)),(4,.sc (.int .i64))],[]⟩ (fun ((lens1,n,i):List Int×Int×Int)=>((lens1.length:Int)-i).toNat+1) 0 ⟨[.int .i64],[(3,.sc (.int .i64))],[]⟩ .u))) .u))) ZcK.S d=ZcK.S.F d:=fun _=>by kernel_rfl
theorem ZcK.sound:Zah Tryz.prog C0 182 ZcK.S:=sE Za4 ZcK.ev (Zai trivial) Tryz.func182
def ZaS.S:ZaI:=⟨0,[.sc (.list [.int .i64])],[],[.list [.int .i64]],⟨[.bool],.sc .bool,[]⟩,
 fun (lens:List Int)=>ZaS lens⟩
theorem ZaS.ev:∀d,Za2 C0 (hnd (tab [(131,ZhI.S),(174,ZcT.S),(182,ZcK.S)])) Tryz.f217 (.seq .u (.seq .u (.seq (.seq .u (.blk (.loopS ⟨[.list [.int .i64],.int .i64,.int .i64],[(0,.sc (.list [.int .i64])),(3,.sc (.int .i64)),(4,.sc (.int .i64))],[]⟩ (fun ((lens1,sum,i):List Int×Int×Int)=>((lens1.length:Int)-i).toNat+1) 0 ⟨[.list [.int .i64],.int .i64],[(0,.sc (.list [.int .i64])),(3,.sc (.int .i64))],[]⟩ .u))) (.seq (.reg [.bool] [(5,.sc .bool)]) (.seq (.reg [.bool] [(2,.sc .bool)]) .u))))) ZaS.S d=ZaS.S.F d:=fun _=>by kernel_rfl
theorem ZaS.sound:Zah Tryz.prog C0 217 ZaS.S:=sE Za4 ZaS.ev (Zai ⟨ZhI.sound,ZcT.sound,ZcK.sound,trivial⟩) Tryz.func217
def ZaO.S:ZaI:=⟨0,[.sc (.list [.int .i64])],[],[.list [.int .i64]],⟨[.list [.int .i64]],.full 0,[.arr [.int .i64]]⟩,
 fun (lens:List Int)=>ZaO lens⟩
theorem ZaO.ev:∀d,Za2 C0 (hnd (tab [])) Tryz.f175 (.seq .u (.seq .u (.seq .u (.seq (.seq .u (.blk (.loop ⟨[.list [.int .i64],.int .i64,.int .i64,.list [.int .i64]],[(0,.sc (.list [.int .i64])),(3,.full 0),(4,.sc (.int .i64)),(5,.sc (.int .i64))],[.arr [.int .i64]]⟩ (fun ((lens1,code_,n,out):List Int×Int×Int×List Int)=>(15-n).toNat+2) 0 ⟨[.list [.int .i64]],[(3,.full 0)],[.arr [.int .i64]]⟩ (.seq .u (.seq (.blk (.seq (.seq .u (.blk (.loop ⟨[.list [.int .i64],.int .i64,.int .i64,.int .i64,.list [.int .i64]],[(0,.sc (.list [.int .i64])),(3,.full 0),(4,.sc (.int .i64)),(5,.sc (.int .i64)),(6,.sc (.int .i64))],[.arr [.int .i64]]⟩ (fun ((lens2,code_1,n1,i,out1):List Int×Int×Int×Int×List Int)=>((lens2.length:Int)-i).toNat+1) 2 ⟨[.list [.int .i64],.int .i64,.int .i64,.list [.int .i64]],[(0,.sc (.list [.int .i64])),(3,.full 0),(4,.sc (.int .i64)),(5,.sc (.int .i64))],[.arr [.int .i64]]⟩ .u))) .u)) .u))))) .u)))) ZaO.S d=ZaO.S.F d:=fun _=>by kernel_rfl
theorem ZaO.sound:Zah Tryz.prog C0 175 ZaO.S:=sE Za4 ZaO.ev (Zai trivial) Tryz.func175
def Zca.S:ZaI:=⟨0,[.sc (.list [.int .i64,.int .i64,.ints .i64])],[],[.list [.int .i64,.int .i64,.ints .i64]],⟨[.int .i64],.sc (.int .i64),[]⟩,
 fun (list:List (Int×Int×List Int))=>Zca list⟩
theorem Zca.ev:∀d,Za2 C0 (hnd (tab [])) Tryz.f201 (.seq .u (.seq .u (.seq (.seq .u (.blk (.loop ⟨[.list [.int .i64,.int .i64,.ints .i64],.int .i64,.int .i64],[(0,.sc (.list [.int .i64,.int .i64,.ints .i64])),(3,.sc (.int .i64)),(4,.sc (.int .i64))],[]⟩ (fun ((list1,at_,i):(List (Int×Int×List Int))×Int×Int)=>((list1.length:Int)-i).toNat+1) 0 ⟨[.int .i64],[(3,.sc (.int .i64))],[]⟩ (.seq .u (.seq (.blk (.seq (.reg [.bool] [(47,.sc .bool)]) .u)) .u))))) .u))) Zca.S d=Zca.S.F d:=fun _=>by kernel_rfl
theorem Zca.sound:Zah Tryz.prog C0 201 Zca.S:=sE Za4 Zca.ev (Zai trivial) Tryz.func201
def Zf6.S:ZaI:=⟨0,[.sc (.list [.int .i64,.int .i64,.ints .i64]),.sc (.int .i64)],[],[.list [.int .i64,.int .i64,.ints .i64],.int .i64],⟨[.list [.int .i64,.int .i64,.ints .i64]],.full 0,[.arr [.int .i64,.int .i64,.ints .i64]]⟩,
 fun ((list,at_):(List (Int×Int×List Int))×Int)=>Zf6 list at_⟩
theorem Zf6.ev:∀d,Za2 C0 (hnd (tab [])) Tryz.f202 .u Zf6.S d=Zf6.S.F d:=fun _=>by kernel_rfl
theorem Zf6.sound:Zah Tryz.prog C0 202 Zf6.S:=sE Za4 Zf6.ev (Zai trivial) Tryz.func202
end Ev
end
section
open Go Go.Proofs
set_option maxRecDepth 100000
namespace Ev
set_option maxHeartbeats 1000000
def Zbi.S:ZaI:=⟨0,[.sc (.list [.int .i64])],[],[.list [.int .i64]],⟨[.list [.int .i64]],.full 0,[.arr [.int .i64]]⟩,
 fun (counts:List Int)=>Zbi counts⟩
theorem Zbi.ev:∀d,Za2 C0 (hnd (tab [(201,Zca.S),(202,Zf6.S)])) Tryz.f183 (.seq .u (.seq .u (.seq .u (.seq (.seq .u (.blk (.loop ⟨[.list [.int .i64],.int .i64,.list [.int .i64],.list [.int .i64,.int .i64,.ints .i64]],[(0,.sc (.list [.int .i64])),(3,.full 0),(4,.full 1),(5,.sc (.int .i64))],[.arr [.int .i64],.arr [.int .i64,.int .i64,.ints .i64]]⟩ (fun ((counts1,i,out,list):List Int×Int×List Int×List (Int×Int×List Int))=>((counts1.length:Int)-i).toNat+1) 0 ⟨[.list [.int .i64],.list [.int .i64,.int .i64,.ints .i64]],[(3,.full 0),(4,.full 1)],[.arr [.int .i64],.arr [.int .i64,.int .i64,.ints .i64]]⟩ .u))) (.join ⟨[.list [.int .i64],.list [.int .i64,.int .i64,.ints .i64]],[(3,.full 0),(4,.full 1)],[.arr [.int .i64],.arr [.int .i64,.int .i64,.ints .i64]]⟩ .u (.seq (.blk (.loop ⟨[.list [.int .i64],.list [.int .i64,.int .i64,.ints .i64]],[(3,.full 0),(4,.full 1)],[.arr [.int .i64],.arr [.int .i64,.int .i64,.ints .i64]]⟩ (fun ((out3,list3):List Int×List (Int×Int×List Int))=>((list3.length:Int)-1).toNat+1) 2 ⟨[.list [.int .i64]],[(3,.full 0)],[.arr [.int .i64]]⟩ (.seq .u (.blk (.seq .u (.seq .u (.seq .u (.seq .u (.seq .u (.seq .u (.seq .u (.join ⟨[.int .i64,.list [.int .i64],.list [.int .i64,.int .i64,.ints .i64],.int .i64,.int .i64,.list [.int .i64],.int .i64,.int .i64,.list [.int .i64]],[(3,.full 0),(4,.full 1),(7,.ptr 2 0),(8,.ptr 3 0),(9,.sc (.int .i64))],[.arr [.int .i64],.arr [.int .i64,.int .i64,.ints .i64],.box [.sc (.int .i64),.sc (.int .i64),.sc (.list [.int .i64])],.box [.sc (.int .i64),.sc (.int .i64),.sc (.list [.int .i64])]]⟩ .u (.seq .u (.seq (.seq .u (.blk (.loop ⟨[.int .i64,.int .i64,.list [.int .i64],.list [.int .i64,.int .i64,.ints .i64],.int .i64,.int .i64,.list [.int .i64],.int .i64,.int .i64,.list [.int .i64],.list [.int .i64]],[(3,.full 0),(4,.full 1),(7,.ptr 2 0),(8,.ptr 3 0),(9,.sc (.int .i64)),(10,.full 4),(11,.sc (.int .i64))],[.arr [.int .i64],.arr [.int .i64,.int .i64,.ints .i64],.box [.sc (.int .i64),.sc (.int .i64),.sc (.list [.int .i64])],.box [.sc (.int .i64),.sc (.int .i64),.sc (.list [.int .i64])],.arr [.int .i64]]⟩ (fun ((first1,i1,out5,list5,o6,o7,o8,o9,o10,o11,syms):Int×Int×List Int×(List (Int×Int×List Int))×Int×Int×List Int×Int×Int×List Int×List Int)=>((syms.length:Int)-i1).toNat+1) 4 ⟨[.int .i64,.list [.int .i64],.list [.int .i64,.int .i64,.ints .i64],.int .i64,.int .i64,.list [.int .i64],.int .i64,.int .i64,.list [.int .i64],.list [.int .i64]],[(3,.full 0),(4,.full 1),(7,.ptr 2 0),(8,.ptr 3 0),(9,.sc (.int .i64)),(10,.full 4)],[.arr [.int .i64],.arr [.int .i64,.int .i64,.ints .i64],.box [.sc (.int .i64),.sc (.int .i64),.sc (.list [.int .i64])],.box [.sc (.int .i64),.sc (.int .i64),.sc (.list [.int .i64])],.arr [.int .i64]]⟩ .u))) .u)))))))))))))) .u)))))) Zbi.S d=Zbi.S.F d:=fun _=>by kernel_rfl
theorem Zbi.sound:Zah Tryz.prog C0 183 Zbi.S:=sE Za4 Zbi.ev (Zai ⟨Zca.sound,Zf6.sound,trivial⟩) Tryz.func183
def Zdf.S:ZaI:=⟨0,[.sc (.list [.int .i64])],[],[.list [.int .i64]],⟨[.int .i64],.sc (.int .i64),[]⟩,
 fun (lens:List Int)=>Zdf lens⟩
theorem Zdf.ev:∀d,Za2 C0 (hnd (tab [])) Tryz.f184 (.seq .u (.seq .u (.seq (.seq .u (.blk (.loop ⟨[.list [.int .i64],.int .i64,.int .i64],[(0,.sc (.list [.int .i64])),(3,.sc (.int .i64)),(4,.sc (.int .i64))],[]⟩ (fun ((lens1,n,i):List Int×Int×Int)=>((lens1.length:Int)-i).toNat+1) 0 ⟨[.int .i64],[(3,.sc (.int .i64))],[]⟩ .u))) .u))) Zdf.S d=Zdf.S.F d:=fun _=>by kernel_rfl
theorem Zdf.sound:Zah Tryz.prog C0 184 Zdf.S:=sE Za4 Zdf.ev (Zai trivial) Tryz.func184
def Zc0.S:ZaI:=⟨0,[.sc (.list [.int .i64]),.sc (.int .i64)],[],[.list [.int .i64],.int .i64],⟨[.list [.int .i64]],.full 0,[.arr [.int .i64]]⟩,
 fun ((counts,most):List Int×Int)=>Zc0 counts most⟩
theorem Zc0.ev:∀d,Za2 C0 (hnd (tab [(183,Zbi.S),(184,Zdf.S)])) Tryz.f148 (.seq .u (.seq .u (.seq .u (.seq (.blk (.loop ⟨[.int .i64,.list [.int .i64],.list [.int .i64]],[(1,.sc (.int .i64)),(5,.full 0),(6,.full 1)],[.arr [.int .i64],.arr [.int .i64]]⟩ (fun ((most1,list,out):Int×List Int×List Int)=>100000) 0 ⟨[.list [.int .i64]],[(6,.full 0)],[.arr [.int .i64]]⟩ (.seq .u (.blk (.seq (.seq .u (.blk (.loop ⟨[.int .i64,.int .i64,.list [.int .i64]],[(1,.sc (.int .i64)),(5,.full 0),(7,.sc (.int .i64))],[.arr [.int .i64]]⟩ (fun ((most2,i,list1):Int×Int×List Int)=>((list1.length:Int)-i).toNat+1) 2 ⟨[.int .i64,.list [.int .i64]],[(1,.sc (.int .i64)),(5,.full 0)],[.arr [.int .i64]]⟩ .u))) .u))))) .u)))) Zc0.S d=Zc0.S.F d:=fun _=>by kernel_rfl
theorem Zc0.sound:Zah Tryz.prog C0 148 Zc0.S:=sE Za4 Zc0.ev (Zai ⟨Zbi.sound,Zdf.sound,trivial⟩) Tryz.func148
def Ze2.S:ZaI:=⟨0,[.sc (.list [.int .i64]),.sc (.list [.int .i64]),.sc (.int .i64)],[],[.list [.int .i64],.list [.int .i64],.int .i64],⟨[.int .i64,.int .i64],.agg [.sc (.int .i64),.sc (.int .i64)],[]⟩,
 fun ((lens,codes_,sym):List Int×List Int×Int)=>Ze2 lens codes_ sym⟩
theorem Ze2.ev:∀d,Za2 C0 (hnd (tab [(213,Zdh.S)])) Tryz.f200 .u Ze2.S d=Ze2.S.F d:=fun _=>by kernel_rfl
theorem Ze2.sound:Zah Tryz.prog C0 200 Ze2.S:=sE Za4 Ze2.ev (Zai ⟨Zdh.sound,trivial⟩) Tryz.func200
def ZaW.S:ZaI:=⟨1,[.ptr 0 0,.sc (.list [.int .i64]),.sc (.list [.int .i64])],[.box [.sc .str,.sc (.int .i64),.sc .bool]],[.list [.int .i64],.list [.int .i64],.str,.int .i64,.bool],⟨[.int .i64,.str,.int .i64,.bool],.sc (.int .i64),[.box [.sc .str,.sc (.int .i64),.sc .bool]]⟩,
 fun ((lens,codes_,s,at_,bad):List Int×List Int×Str×Int×Bool)=>ZaW lens codes_ s at_ bad⟩
theorem ZaW.ev:∀d,Za2 C0 (hnd (tab [(208,Zkv.S)])) Tryz.f215 (.seq .u (.seq .u (.seq (.seq .u (.blk (.loopS ⟨[.list [.int .i64],.list [.int .i64],.int .i64,.int .i64,.str,.int .i64,.bool],[(0,.ptr 0 0),(1,.sc (.list [.int .i64])),(2,.sc (.list [.int .i64])),(7,.sc (.int .i64)),(8,.sc (.int .i64))],[.box [.sc .str,.sc (.int .i64),.sc .bool]]⟩ (fun ((lens1,codes_1,code_,n,o,o1,o2):List Int×List Int×Int×Int×Str×Int×Bool)=>(15-n).toNat+2) 0 ⟨[.str,.int .i64,.bool],[(0,.ptr 0 0)],[.box [.sc .str,.sc (.int .i64),.sc .bool]]⟩ (.seq (.seq (.reg [.bool] [(18,.sc .bool)]) .u) (.seq (.blk (.seq .u (.seq .u (.blk (.loopS ⟨[.list [.int .i64],.list [.int .i64],.int .i64,.int .i64,.int .i64,.str,.int .i64,.bool],[(0,.ptr 0 0),(1,.sc (.list [.int .i64])),(2,.sc (.list [.int .i64])),(7,.sc (.int .i64)),(8,.sc (.int .i64)),(9,.sc (.int .i64))],[.box [.sc .str,.sc (.int .i64),.sc .bool]]⟩ (fun ((lens2,codes_2,code_1,n1,i,o3,o4,o5):List Int×List Int×Int×Int×Int×Str×Int×Bool)=>((lens2.length:Int)-i).toNat+1) 2 ⟨[.list [.int .i64],.list [.int .i64],.int .i64,.int .i64,.str,.int .i64,.bool],[(0,.ptr 0 0),(1,.sc (.list [.int .i64])),(2,.sc (.list [.int .i64])),(7,.sc (.int .i64)),(8,.sc (.int .i64))],[.box [.sc .str,.sc (.int .i64),.sc .bool]]⟩ (.seq .u (.seq (.blk (.seq (.reg [.bool] [(45,.sc .bool)]) .u)) .u))))))) .u))))) .u))) ZaW.S d=ZaW.S.F d:=fun _=>by kernel_rfl
theorem ZaW.sound:Zah Tryz.prog C0 215 ZaW.S:=sE Za4 ZaW.ev (Zai ⟨Zkv.sound,trivial⟩) Tryz.func215
def Ze1.S:ZaI:=⟨0,[.full 0,.agg [.sc (.int .i64),.sc (.int .i64),.sc (.int .i64)]],[.arr [.int .u8]],[.int .i64,.int .i64,.int .i64,.list [.int .u8]],⟨[.bool,.list [.int .u8]],.tup [.full 0,.sc .bool],[.arr [.int .u8]]⟩,
 fun ((byte,long,back,text):Int×Int×Int×List Int)=>Ze1 byte long back text⟩
theorem Ze1.ev:∀d,Za2 C0 (hnd (tab [(131,ZhI.S)])) Tryz.f219 (.seq .u (.seq .u (.seq (.seq (.reg [.bool] [(45,.sc .bool)]) .u) (.seq (.seq .u (.blk (.loop ⟨[.int .i64,.list [.int .u8],.int .i64,.int .i64,.int .i64],[(0,.full 0),(3,.ptr 1 0),(6,.sc (.int .i64))],[.arr [.int .u8],.box [.sc (.int .i64),.sc (.int .i64),.sc (.int .i64)]]⟩ (fun ((i,text1,o,o1,o2):Int×List Int×Int×Int×Int)=>(o1-i).toNat+1) 0 ⟨[.list [.int .u8]],[(0,.full 0)],[.arr [.int .u8]]⟩ .u))) .u)))) Ze1.S d=Ze1.S.F d:=fun _=>by kernel_rfl
theorem Ze1.sound:Zah Tryz.prog C0 219 Ze1.S:=sE Za4 Ze1.ev (Zai ⟨ZhI.sound,trivial⟩) Tryz.func219
def Zcl.S:ZaI:=⟨0,[.sc .str,.sc (.int .i64),.sc (.int .i64)],[],[.str,.int .i64,.int .i64],⟨[.int .i64],.sc (.int .i64),[]⟩,
 fun ((text,at_,back):Str×Int×Int)=>Zcl text at_ back⟩
theorem Zcl.ev:∀d,Za2 C0 (hnd (tab [])) Tryz.f181 (.seq .u (.seq .u (.seq (.blk (.loop ⟨[.str,.int .i64,.int .i64,.int .i64],[(0,.sc .str),(1,.sc (.int .i64)),(2,.sc (.int .i64)),(7,.sc (.int .i64))],[]⟩ (fun ((text1,at_1,back1,n):Str×Int×Int×Int)=>62) 0 ⟨[.int .i64],[(7,.sc (.int .i64))],[]⟩ (.seq (.seq (.reg [.bool] [(32,.sc .bool)]) .u) .u))) .u))) Zcl.S d=Zcl.S.F d:=fun _=>by kernel_rfl
theorem Zcl.sound:Zah Tryz.prog C0 181 Zcl.S:=sE Za4 Zcl.ev (Zai trivial) Tryz.func181
def ZaK.S:ZaI:=⟨0,[.sc .str],[],[.str],⟨[.list [.int .i64,.int .i64,.int .i64]],.full 0,[.arr [.int .i64,.int .i64,.int .i64]]⟩,
 fun (text:Str)=>ZaK text⟩
theorem ZaK.ev:∀d,Za2 C0 (hnd (tab [(181,Zcl.S)])) Tryz.f143 (.seq .u (.seq .u (.seq (.seq .u (.blk (.loop ⟨[.str,.int .i64,.list [.int .i64,.int .i64,.int .i64]],[(0,.sc .str),(3,.full 0),(4,.sc (.int .i64))],[.arr [.int .i64,.int .i64,.int .i64]]⟩ (fun ((text1,at_,out):Str×Int×List (Int×Int×Int))=>((text1.length:Int)-at_).toNat+1) 0 ⟨[.list [.int .i64,.int .i64,.int .i64]],[(3,.full 0)],[.arr [.int .i64,.int .i64,.int .i64]]⟩ (.seq .u (.blk (.seq .u (.seq .u (.seq (.seq .u (.blk (.loop ⟨[.str,.int .i64,.int .i64,.int .i64,.int .i64,.list [.int .i64,.int .i64,.int .i64]],[(0,.sc .str),(3,.full 0),(4,.sc (.int .i64)),(5,.sc (.int .i64)),(6,.sc (.int .i64)),(7,.sc (.int .i64))],[.arr [.int .i64,.int .i64,.int .i64]]⟩ (fun ((text2,at_1,long,far,back,out1):Str×Int×Int×Int×Int×List (Int×Int×Int))=>(250-back).toNat+2) 2 ⟨[.str,.int .i64,.int .i64,.int .i64,.list [.int .i64,.int .i64,.int .i64]],[(0,.sc .str),(3,.full 0),(4,.sc (.int .i64)),(5,.sc (.int .i64)),(6,.sc (.int .i64))],[.arr [.int .i64,.int .i64,.int .i64]]⟩ (.seq (.seq (.reg [.bool] [(20,.sc .bool)]) .u) .u)))) .u)))))))) .u))) ZaK.S d=ZaK.S.F d:=fun _=>by kernel_rfl
theorem ZaK.sound:Zah Tryz.prog C0 143 ZaK.S:=sE Za4 ZaK.ev (Zai ⟨Zcl.sound,trivial⟩) Tryz.func143
def ZcZ.S:ZaI:=⟨0,[.sc (.list [.int .i64]),.sc (.int .i64)],[],[.list [.int .i64],.int .i64],⟨[.list [.int .i64]],.full 0,[.arr [.int .i64]]⟩,
 fun ((extra,from_):List Int×Int)=>ZcZ extra from_⟩
theorem ZcZ.ev:∀d,Za2 C0 (hnd (tab [(174,ZcT.S)])) Tryz.f176 (.seq .u (.seq .u (.seq (.seq .u (.blk (.loop ⟨[.list [.int .i64],.int .i64,.int .i64,.list [.int .i64]],[(0,.sc (.list [.int .i64])),(1,.sc (.int .i64)),(5,.full 0),(6,.sc (.int .i64))],[.arr [.int .i64]]⟩ (fun ((extra1,from_1,i,out):List Int×Int×Int×List Int)=>((extra1.length:Int)-i).toNat+1) 0 ⟨[.list [.int .i64]],[(5,.full 0)],[.arr [.int .i64]]⟩ .u))) .u))) ZcZ.S d=ZcZ.S.F d:=fun _=>by kernel_rfl
theorem ZcZ.sound:Zah Tryz.prog C0 176 ZcZ.S:=sE Za4 ZcZ.ev (Zai ⟨ZcT.sound,trivial⟩) Tryz.func176
def Zbd.S:ZaI:=⟨0,[],[],[],⟨[.list [.int .i64]],.full 0,[.arr [.int .i64]]⟩,
 fun (_:Unit)=>Zbd⟩
theorem Zbd.ev:∀d,Za2 C0 (hnd (tab [])) Tryz.f177 .u Zbd.S d=Zbd.S.F d:=fun _=>by kernel_rfl
theorem Zbd.sound:Zah Tryz.prog C0 177 Zbd.S:=sE Za4 Zbd.ev (Zai trivial) Tryz.func177
def Zbe.S:ZaI:=⟨0,[],[],[],⟨[.list [.int .i64]],.full 0,[.arr [.int .i64]]⟩,
 fun (_:Unit)=>Zbe⟩
theorem Zbe.ev:∀d,Za2 C0 (hnd (tab [])) Tryz.f178 .u Zbe.S d=Zbe.S.F d:=fun _=>by kernel_rfl
theorem Zbe.sound:Zah Tryz.prog C0 178 Zbe.S:=sE Za4 Zbe.ev (Zai trivial) Tryz.func178
def Zfj.S:ZaI:=⟨0,[.sc (.list [.int .i64]),.sc (.int .i64)],[],[.list [.int .i64],.int .i64],⟨[.int .i64],.sc (.int .i64),[]⟩,
 fun ((base,n):List Int×Int)=>Zfj base n⟩
theorem Zfj.ev:∀d,Za2 C0 (hnd (tab [])) Tryz.f180 (.seq .u (.seq .u (.seq (.blk (.loop ⟨[.list [.int .i64],.int .i64,.int .i64],[(0,.sc (.list [.int .i64])),(1,.sc (.int .i64)),(5,.sc (.int .i64))],[]⟩ (fun ((base1,n1,k):List Int×Int×Int)=>(base1.length:Int).toNat+1) 0 ⟨[.int .i64],[(5,.sc (.int .i64))],[]⟩ (.seq (.seq (.reg [.bool] [(19,.sc .bool)]) .u) .u))) .u))) Zfj.S d=Zfj.S.F d:=fun _=>by kernel_rfl
theorem Zfj.sound:Zah Tryz.prog C0 180 Zfj.S:=sE Za4 Zfj.ev (Zai trivial) Tryz.func180
def Zc5.S:ZaI:=⟨0,[],[],[],⟨[.list [.int .i64]],.full 0,[.arr [.int .i64]]⟩,
 fun (_:Unit)=>Zc5⟩
theorem Zc5.ev:∀d,Za2 C0 (hnd (tab [])) Tryz.f144 (.seq .u (.seq .u (.seq (.seq .u (.blk (.loop ⟨[.int .i64,.list [.int .i64]],[(1,.full 0),(2,.sc (.int .i64))],[.arr [.int .i64]]⟩ (fun ((i,out):Int×List Int)=>(288-i).toNat+1) 0 ⟨[.list [.int .i64]],[(1,.full 0)],[.arr [.int .i64]]⟩ .u))) .u))) Zc5.S d=Zc5.S.F d:=fun _=>by kernel_rfl
theorem Zc5.sound:Zah Tryz.prog C0 144 Zc5.S:=sE Za4 Zc5.ev (Zai trivial) Tryz.func144
def Zc6.S:ZaI:=⟨0,[],[],[],⟨[.list [.int .i64]],.full 0,[.arr [.int .i64]]⟩,
 fun (_:Unit)=>Zc6⟩
theorem Zc6.ev:∀d,Za2 C0 (hnd (tab [])) Tryz.f145 (.seq .u (.seq .u (.seq (.seq .u (.blk (.loop ⟨[.int .i64,.list [.int .i64]],[(1,.full 0),(2,.sc (.int .i64))],[.arr [.int .i64]]⟩ (fun ((i,out):Int×List Int)=>(32-i).toNat+1) 0 ⟨[.list [.int .i64]],[(1,.full 0)],[.arr [.int .i64]]⟩ .u))) .u))) Zc6.S d=Zc6.S.F d:=fun _=>by kernel_rfl
theorem Zc6.sound:Zah Tryz.prog C0 145 Zc6.S:=sE Za4 Zc6.ev (Zai trivial) Tryz.func145
def Zn2.S:ZaI:=⟨1,[.ptr 0 0,.sc (.list [.int .i64]),.sc (.list [.int .i64]),.sc (.int .i64)],[.box [.full 1,.sc (.int .i64),.sc (.int .i64)],.arr [.int .u8]],[.list [.int .i64],.list [.int .i64],.int .i64,.int .i64,.int .i64,.list [.int .u8]],⟨[.int .i64,.int .i64,.list [.int .u8]],.tup [],[.box [.full 1,.sc (.int .i64),.sc (.int .i64)],.arr [.int .u8]]⟩,
 fun ((lens,codes_,sym,last,fill,text):List Int×List Int×Int×Int×Int×List Int)=>Zn2 lens codes_ sym last fill text⟩
theorem Zn2.ev:∀d,Za2 C0 (hnd (tab [(140,Zel.S),(200,Ze2.S)])) Tryz.f179 .u Zn2.S d=Zn2.S.F d:=fun _=>by kernel_rfl
theorem Zn2.sound:Zah Tryz.prog C0 179 Zn2.S:=sE Za4 Zn2.ev (Zai ⟨Zel.sound,Ze2.sound,trivial⟩) Tryz.func179
def ZbP.S:ZaI:=⟨1,[.ptr 0 0,.sc (.list [.int .i64,.int .i64,.int .i64]),.sc (.list [.int .i64]),.sc (.list [.int .i64])],[.box [.full 1,.sc (.int .i64),.sc (.int .i64)],.arr [.int .u8]],[.list [.int .i64,.int .i64,.int .i64],.list [.int .i64],.list [.int .i64],.int .i64,.int .i64,.list [.int .u8]],⟨[.int .i64,.int .i64,.list [.int .u8]],.tup [],[.box [.full 1,.sc (.int .i64),.sc (.int .i64)],.arr [.int .u8]]⟩,
 fun ((list,longs,backs,last,fill,text):(List (Int×Int×Int))×List Int×List Int×Int×Int×List Int)=>ZbP list longs backs last fill text⟩
theorem ZbP.ev:∀d,Za2 C0 (hnd (tab [(140,Zel.S),(175,ZaO.S),(176,ZcZ.S),(177,Zbd.S),(178,Zbe.S),(179,Zn2.S),(180,Zfj.S)])) Tryz.f142 (.seq .u (.seq .u (.seq .u (.seq .u (.seq (.seq .u (.blk (.loop ⟨[.list [.int .i64,.int .i64,.int .i64],.list [.int .i64],.list [.int .i64],.int .i64,.int .i64,.int .i64,.list [.int .i64],.list [.int .i64],.list [.int .i64],.list [.int .i64],.list [.int .u8]],[(0,.ptr 0 0),(1,.sc (.list [.int .i64,.int .i64,.int .i64])),(2,.sc (.list [.int .i64])),(3,.sc (.list [.int .i64])),(8,.full 1),(9,.full 2),(10,.full 3),(11,.full 4),(12,.sc (.int .i64))],[.box [.full 5,.sc (.int .i64),.sc (.int .i64)],.arr [.int .i64],.arr [.int .i64],.arr [.int .i64],.arr [.int .i64],.arr [.int .u8]]⟩ (fun ((list1,longs1,backs1,i,o,o1,a,b,long,back,o2):(List (Int×Int×Int))×List Int×List Int×Int×Int×Int×List Int×List Int×List Int×List Int×List Int)=>((list1.length:Int)-i).toNat+1) 0 ⟨[.list [.int .i64],.int .i64,.int .i64,.list [.int .i64],.list [.int .u8]],[(0,.ptr 0 0),(2,.sc (.list [.int .i64])),(8,.full 1)],[.box [.full 2,.sc (.int .i64),.sc (.int .i64)],.arr [.int .i64],.arr [.int .u8]]⟩ .u))) .u))))) ZbP.S d=ZbP.S.F d:=fun _=>by kernel_rfl
theorem ZbP.sound:Zah Tryz.prog C0 142 ZbP.S:=sE Za4 ZbP.ev (Zai ⟨Zel.sound,ZaO.sound,ZcZ.sound,Zbd.sound,Zbe.sound,Zn2.sound,Zfj.sound,trivial⟩) Tryz.func142
def ZeE.S:ZaI:=⟨0,[.sc .str],[],[.str],⟨[.str],.sc .str,[]⟩,
 fun (text:Str)=>ZeE text⟩
theorem ZeE.ev:∀d,Za2 C0 (hnd (tab [(140,Zel.S),(141,ZdJ.S)])) Tryz.f97 .u ZeE.S d=ZeE.S.F d:=fun _=>by kernel_rfl
theorem ZeE.sound:Zah Tryz.prog C0 97 ZeE.S:=sE Za4 ZeE.ev (Zai ⟨Zel.sound,ZdJ.sound,trivial⟩) Tryz.func97
def ZeF.S:ZaI:=⟨0,[.sc .str],[],[.str],⟨[.str],.sc .str,[]⟩,
 fun (text:Str)=>ZeF text⟩
theorem ZeF.ev:∀d,Za2 C0 (hnd (tab [(140,Zel.S),(141,ZdJ.S),(142,ZbP.S),(143,ZaK.S),(144,Zc5.S),(145,Zc6.S)])) Tryz.f98 .u ZeF.S d=ZeF.S.F d:=fun _=>by kernel_rfl
theorem ZeF.sound:Zah Tryz.prog C0 98 ZeF.S:=sE Za4 ZeF.ev (Zai ⟨Zel.sound,ZdJ.sound,ZbP.sound,ZaK.sound,Zc5.sound,Zc6.sound,trivial⟩) Tryz.func98
def ZbA.S:ZaI:=⟨0,[.sc (.list [.int .i64,.int .i64,.int .i64])],[],[.list [.int .i64,.int .i64,.int .i64]],⟨[.list [.int .i64],.list [.int .i64]],.tup [.full 0,.full 1],[.arr [.int .i64],.arr [.int .i64]]⟩,
 fun (list:List (Int×Int×Int))=>ZbA list⟩
theorem ZbA.ev:∀d,Za2 C0 (hnd (tab [(176,ZcZ.S),(177,Zbd.S),(178,Zbe.S),(180,Zfj.S),(182,ZcK.S)])) Tryz.f146 (.seq .u (.seq .u (.seq .u (.seq .u (.seq .u (.seq .u (.seq (.seq .u (.blk (.loop ⟨[.list [.int .i64,.int .i64,.int .i64],.int .i64,.list [.int .i64],.list [.int .i64],.list [.int .i64],.list [.int .i64]],[(0,.sc (.list [.int .i64,.int .i64,.int .i64])),(4,.full 0),(5,.full 1),(6,.full 2),(7,.full 3),(8,.sc (.int .i64))],[.arr [.int .i64],.arr [.int .i64],.arr [.int .i64],.arr [.int .i64]]⟩ (fun ((list1,i,longs,backs,long,back):(List (Int×Int×Int))×Int×List Int×List Int×List Int×List Int)=>((list1.length:Int)-i).toNat+1) 0 ⟨[.list [.int .i64],.list [.int .i64]],[(4,.full 0),(5,.full 1)],[.arr [.int .i64],.arr [.int .i64]]⟩ .u))) .u))))))) ZbA.S d=ZbA.S.F d:=fun _=>by kernel_rfl
theorem ZbA.sound:Zah Tryz.prog C0 146 ZbA.S:=sE Za4 ZbA.ev (Zai ⟨ZcZ.sound,Zbd.sound,Zbe.sound,Zfj.sound,ZcK.sound,trivial⟩) Tryz.func146
def ZcE.S:ZaI:=⟨0,[.sc (.list [.int .i64]),.sc (.int .i64)],[],[.list [.int .i64],.int .i64],⟨[.list [.int .i64]],.sc (.list [.int .i64]),[]⟩,
 fun ((lens,least_):List Int×Int)=>ZcE lens least_⟩
theorem ZcE.ev:∀d,Za2 C0 (hnd (tab [])) Tryz.f147 (.seq .u (.seq .u (.seq (.blk (.loop ⟨[.list [.int .i64],.int .i64,.int .i64],[(0,.sc (.list [.int .i64])),(1,.sc (.int .i64)),(5,.sc (.int .i64))],[]⟩ (fun ((lens1,least_1,n):List Int×Int×Int)=>(n-least_1).toNat+1) 0 ⟨[.list [.int .i64],.int .i64],[(0,.sc (.list [.int .i64])),(5,.sc (.int .i64))],[]⟩ (.seq (.seq (.reg [.bool] [(18,.sc .bool)]) .u) .u))) .u))) ZcE.S d=ZcE.S.F d:=fun _=>by kernel_rfl
theorem ZcE.sound:Zah Tryz.prog C0 147 ZcE.S:=sE Za4 ZcE.ev (Zai trivial) Tryz.func147
def ZdB.S:ZaI:=⟨0,[],[],[],⟨[.list [.int .i64]],.full 0,[.arr [.int .i64]]⟩,
 fun (_:Unit)=>ZdB⟩
theorem ZdB.ev:∀d,Za2 C0 (hnd (tab [])) Tryz.f185 .u ZdB.S d=ZdB.S.F d:=fun _=>by kernel_rfl
theorem ZdB.sound:Zah Tryz.prog C0 185 ZdB.S:=sE Za4 ZdB.ev (Zai trivial) Tryz.func185
def Zcp.S:ZaI:=⟨1,[.ptr 0 0,.sc (.list [.int .i64]),.sc (.list [.int .i64])],[.box [.full 1,.sc (.int .i64),.sc (.int .i64)],.arr [.int .u8]],[.list [.int .i64],.list [.int .i64],.int .i64,.int .i64,.list [.int .u8]],⟨[.int .i64,.int .i64,.list [.int .u8]],.tup [],[.box [.full 1,.sc (.int .i64),.sc (.int .i64)],.arr [.int .u8]]⟩,
 fun ((longs,backs,last,fill,text):List Int×List Int×Int×Int×List Int)=>Zcp longs backs last fill text⟩
theorem Zcp.ev:∀d,Za2 C0 (hnd (tab [(140,Zel.S),(148,Zc0.S),(175,ZaO.S),(179,Zn2.S),(185,ZdB.S)])) Tryz.f149 (.seq .u (.seq .u (.seq (.seq .u (.blk (.loop ⟨[.list [.int .i64],.list [.int .i64],.int .i64,.int .i64,.int .i64,.list [.int .i64],.list [.int .i64],.list [.int .u8]],[(0,.ptr 0 0),(1,.sc (.list [.int .i64])),(2,.sc (.list [.int .i64])),(6,.full 1),(7,.full 2),(8,.sc (.int .i64))],[.box [.full 3,.sc (.int .i64),.sc (.int .i64)],.arr [.int .i64],.arr [.int .i64],.arr [.int .u8]]⟩ (fun ((longs1,backs1,i,o,o1,all,counts,o2):List Int×List Int×Int×Int×Int×List Int×List Int×List Int)=>((all.length:Int)-i).toNat+1) 0 ⟨[.list [.int .i64],.list [.int .i64],.int .i64,.int .i64,.list [.int .i64],.list [.int .i64],.list [.int .u8]],[(0,.ptr 0 0),(1,.sc (.list [.int .i64])),(2,.sc (.list [.int .i64])),(6,.full 1),(7,.full 2)],[.box [.full 3,.sc (.int .i64),.sc (.int .i64)],.arr [.int .i64],.arr [.int .i64],.arr [.int .u8]]⟩ .u))) (.seq .u (.seq .u (.seq .u (.seq .u (.seq .u (.seq (.seq .u (.blk (.loop ⟨[.int .i64,.int .i64,.int .i64,.list [.int .i64],.list [.int .i64],.list [.int .i64],.list [.int .u8]],[(0,.ptr 0 0),(6,.full 1),(9,.full 2),(10,.full 3),(11,.sc (.int .i64))],[.box [.full 4,.sc (.int .i64),.sc (.int .i64)],.arr [.int .i64],.arr [.int .i64],.arr [.int .i64],.arr [.int .u8]]⟩ (fun ((i1,o6,o7,all2,lens,codes_,o8):Int×Int×Int×List Int×List Int×List Int×List Int)=>(19-i1).toNat+1) 2 ⟨[.int .i64,.int .i64,.list [.int .i64],.list [.int .i64],.list [.int .i64],.list [.int .u8]],[(0,.ptr 0 0),(6,.full 1),(9,.full 2),(10,.full 3)],[.box [.full 4,.sc (.int .i64),.sc (.int .i64)],.arr [.int .i64],.arr [.int .i64],.arr [.int .i64],.arr [.int .u8]]⟩ .u))) (.seq .u (.blk (.loop ⟨[.int .i64,.int .i64,.int .i64,.list [.int .i64],.list [.int .i64],.list [.int .i64],.list [.int .u8]],[(0,.ptr 0 0),(6,.full 1),(9,.full 2),(10,.full 3),(12,.sc (.int .i64))],[.box [.full 4,.sc (.int .i64),.sc (.int .i64)],.arr [.int .i64],.arr [.int .i64],.arr [.int .i64],.arr [.int .u8]]⟩ (fun ((i2,o12,o13,all4,lens2,codes_2,o14):Int×Int×Int×List Int×List Int×List Int×List Int)=>((all4.length:Int)-i2).toNat+1) 4 ⟨[.int .i64,.int .i64,.list [.int .u8]],[],[.box [.full 1,.sc (.int .i64),.sc (.int .i64)],.arr [.int .u8]]⟩ .u)))))))))))) Zcp.S d=Zcp.S.F d:=fun _=>by kernel_rfl
theorem Zcp.sound:Zah Tryz.prog C0 149 Zcp.S:=sE Za4 Zcp.ev (Zai ⟨Zel.sound,Zc0.sound,ZaO.sound,Zn2.sound,ZdB.sound,trivial⟩) Tryz.func149
def ZjG.S:ZaI:=⟨0,[.sc .str],[],[.str],⟨[.str],.sc .str,[]⟩,
 fun (text:Str)=>ZjG text⟩
theorem ZjG.ev:∀d,Za2 C0 (hnd (tab [(140,Zel.S),(141,ZdJ.S),(142,ZbP.S),(143,ZaK.S),(146,ZbA.S),(147,ZcE.S),(148,Zc0.S),(149,Zcp.S)])) Tryz.f99 .u ZjG.S d=ZjG.S.F d:=fun _=>by kernel_rfl
theorem ZjG.sound:Zah Tryz.prog C0 99 ZjG.S:=sE Za4 ZjG.ev (Zai ⟨Zel.sound,ZdJ.sound,ZbP.sound,ZaK.sound,ZbA.sound,ZcE.sound,Zc0.sound,Zcp.sound,trivial⟩) Tryz.func99
def Zak.S:ZaI:=⟨0,[.sc .str],[],[.str],⟨[.str],.sc .str,[]⟩,
 fun (text:Str)=>Zak text⟩
theorem Zak.ev:∀d,Za2 C0 (hnd (tab [(97,ZeE.S),(98,ZeF.S),(99,ZjG.S)])) Tryz.f57 (.seq .u (.seq .u (.seq .u (.seq .u (.seq (.seq .u (.blk (.loop ⟨[.str,.int .i64,.list [.str]],[(3,.sc .str),(4,.full 0),(5,.sc (.int .i64))],[.arr [.str]]⟩ (fun ((out,i,list):Str×Int×List Str)=>((list.length:Int)-i).toNat+1) 0 ⟨[.str],[(3,.sc .str)],[]⟩ .u))) .u))))) Zak.S d=Zak.S.F d:=fun _=>by kernel_rfl
theorem Zak.sound:Zah Tryz.prog C0 57 Zak.S:=sE Za4 Zak.ev (Zai ⟨ZeE.sound,ZeF.sound,ZjG.sound,trivial⟩) Tryz.func57
def ZbS.S:ZaI:=⟨1,[.ptr 0 0,.full 1],[.box [.sc .str,.sc (.int .i64),.sc .bool],.arr [.int .u8]],[.str,.int .i64,.bool,.list [.int .u8]],⟨[.str,.int .i64,.bool,.list [.int .u8]],.full 1,[.box [.sc .str,.sc (.int .i64),.sc .bool],.arr [.int .u8]]⟩,
 fun ((s,at_,bad,text):Str×Int×Bool×List Int)=>ZbS s at_ bad text⟩
theorem ZbS.ev:∀d,Za2 C0 (hnd (tab [(199,ZcX.S),(209,Zfr.S)])) Tryz.f210 (.seq .u (.join ⟨[.str,.int .i64,.bool,.list [.int .u8]],[(0,.ptr 0 0),(1,.full 1)],[.box [.sc .str,.sc (.int .i64),.sc .bool],.arr [.int .u8]]⟩ .u (.seq .u (.join ⟨[.int .i64,.str,.int .i64,.bool,.list [.int .u8]],[(0,.ptr 0 0),(1,.full 1),(5,.sc (.int .i64))],[.box [.sc .str,.sc (.int .i64),.sc .bool],.arr [.int .u8]]⟩ .u (.seq (.seq .u (.blk (.loop ⟨[.int .i64,.int .i64,.str,.int .i64,.bool,.list [.int .u8]],[(0,.ptr 0 0),(1,.full 1),(5,.sc (.int .i64)),(6,.sc (.int .i64))],[.box [.sc .str,.sc (.int .i64),.sc .bool],.arr [.int .u8]]⟩ (fun ((n1,i,o6,o7,o8,text3):Int×Int×Str×Int×Bool×List Int)=>(n1-i).toNat+1) 0 ⟨[.str,.int .i64,.bool,.list [.int .u8]],[(1,.full 1)],[.box [.sc .str,.sc (.int .i64),.sc .bool],.arr [.int .u8]]⟩ (.seq (.seq (.reg [.bool] [(36,.sc .bool)]) .u) .u)))) .u))))) ZbS.S d=ZbS.S.F d:=fun _=>by kernel_rfl
theorem ZbS.sound:Zah Tryz.prog C0 210 ZbS.S:=sE Za4 ZbS.ev (Zai ⟨ZcX.sound,Zfr.sound,trivial⟩) Tryz.func210
end Ev
end
section
open Go Go.Proofs
set_option maxRecDepth 100000
namespace Ev
set_option maxHeartbeats 1000000
def Zgk.S:ZaI:=⟨1,[.ptr 0 0,.full 1,.sc (.int .i64),.sc (.list [.int .i64]),.sc (.list [.int .i64])],[.box [.sc .str,.sc (.int .i64),.sc .bool],.arr [.int .u8]],[.int .i64,.list [.int .i64],.list [.int .i64],.str,.int .i64,.bool,.list [.int .u8]],⟨[.str,.int .i64,.bool,.list [.int .u8]],.full 1,[.box [.sc .str,.sc (.int .i64),.sc .bool],.arr [.int .u8]]⟩,
 fun ((sym,backs,codes_,s,at_,bad,text):Int×List Int×List Int×Str×Int×Bool×List Int)=>Zgk sym backs codes_ s at_ bad text⟩
theorem Zgk.ev:∀d,Za2 C0 (hnd (tab [(176,ZcZ.S),(177,Zbd.S),(178,Zbe.S),(209,Zfr.S),(215,ZaW.S),(219,Ze1.S)])) Tryz.f216 (.seq .u (.seq .u (.seq .u (.seq (.cm [(2,[0]),(3,[0]),(4,[0])]) (.seq .u (.seq .u (.seq (.cm [(2,[0]),(3,[0]),(4,[0])]) .u))))))) Zgk.S d=Zgk.S.F d:=fun _=>by kernel_rfl
theorem Zgk.sound:Zah Tryz.prog C0 216 Zgk.S:=sE Za4 Zgk.ev (Zai ⟨ZcZ.sound,Zbd.sound,Zbe.sound,Zfr.sound,ZaW.sound,Ze1.sound,trivial⟩) Tryz.func216
def Zb9.S:ZaI:=⟨1,[.ptr 0 0,.full 1,.sc (.list [.int .i64]),.sc (.list [.int .i64])],[.box [.sc .str,.sc (.int .i64),.sc .bool],.arr [.int .u8]],[.list [.int .i64],.list [.int .i64],.str,.int .i64,.bool,.list [.int .u8]],⟨[.str,.int .i64,.bool,.list [.int .u8]],.full 1,[.box [.sc .str,.sc (.int .i64),.sc .bool],.arr [.int .u8]]⟩,
 fun ((longs,backs,s,at_,bad,text):List Int×List Int×Str×Int×Bool×List Int)=>Zb9 longs backs s at_ bad text⟩
theorem Zb9.ev:∀d,Za2 C0 (hnd (tab [(175,ZaO.S),(215,ZaW.S),(216,Zgk.S)])) Tryz.f211 (.seq .u (.seq .u (.seq .u (.seq (.blk (.loopS ⟨[.list [.int .i64],.list [.int .i64],.str,.int .i64,.bool,.list [.int .u8],.list [.int .i64],.list [.int .i64]],[(0,.ptr 0 0),(1,.full 1),(2,.sc (.list [.int .i64])),(3,.sc (.list [.int .i64])),(9,.full 2),(10,.full 3)],[.box [.sc .str,.sc (.int .i64),.sc .bool],.arr [.int .u8],.arr [.int .i64],.arr [.int .i64]]⟩ (fun ((longs1,backs1,o,o1,o2,text1,a,b):List Int×List Int×Str×Int×Bool×List Int×List Int×List Int)=>100000) 0 ⟨[.str,.int .i64,.bool,.list [.int .u8]],[(0,.ptr 0 0),(1,.full 1)],[.box [.sc .str,.sc (.int .i64),.sc .bool],.arr [.int .u8]]⟩ (.seq (.seq (.reg [.bool] [(25,.sc .bool)]) .u) (.blk (.seq .u (.blk (.seq (.reg [.bool] [(36,.sc .bool)]) .u))))))) .u)))) Zb9.S d=Zb9.S.F d:=fun _=>by kernel_rfl
theorem Zb9.sound:Zah Tryz.prog C0 211 Zb9.S:=sE Za4 Zb9.ev (Zai ⟨ZaO.sound,ZaW.sound,Zgk.sound,trivial⟩) Tryz.func211
def ZdZ.S:ZaI:=⟨1,[.ptr 0 0,.full 1,.sc (.int .i64)],[.box [.sc .str,.sc (.int .i64),.sc .bool],.arr [.int .i64]],[.int .i64,.str,.int .i64,.bool,.list [.int .i64]],⟨[.str,.int .i64,.bool,.list [.int .i64]],.full 1,[.box [.sc .str,.sc (.int .i64),.sc .bool],.arr [.int .i64]]⟩,
 fun ((sym,s,at_,bad,out):Int×Str×Int×Bool×List Int)=>ZdZ sym s at_ bad out⟩
theorem ZdZ.ev:∀d,Za2 C0 (hnd (tab [(209,Zfr.S)])) Tryz.f218 (.seq .u (.seq .u (.seq .u (.join ⟨[.int .i64,.int .i64,.str,.int .i64,.bool,.list [.int .i64]],[(0,.ptr 0 0),(1,.full 1),(7,.sc (.int .i64)),(8,.sc (.int .i64))],[.box [.sc .str,.sc (.int .i64),.sc .bool],.arr [.int .i64]]⟩ (.blk (.seq (.reg [.bool] [(11,.sc .bool)]) .u)) (.seq (.seq .u (.blk (.loop ⟨[.int .i64,.int .i64,.int .i64,.str,.int .i64,.bool,.list [.int .i64]],[(0,.ptr 0 0),(1,.full 1),(7,.sc (.int .i64)),(8,.sc (.int .i64)),(9,.sc (.int .i64))],[.box [.sc .str,.sc (.int .i64),.sc .bool],.arr [.int .i64]]⟩ (fun ((last1,n1,i,o3,o4,o5,out2):Int×Int×Int×Str×Int×Bool×List Int)=>(n1-i).toNat+1) 1 ⟨[.str,.int .i64,.bool,.list [.int .i64]],[(1,.full 1)],[.box [.sc .str,.sc (.int .i64),.sc .bool],.arr [.int .i64]]⟩ (.seq (.seq (.reg [.bool] [(55,.sc .bool)]) .u) .u)))) .u))))) ZdZ.S d=ZdZ.S.F d:=fun _=>by kernel_rfl
theorem ZdZ.sound:Zah Tryz.prog C0 218 ZdZ.S:=sE Za4 ZdZ.ev (Zai ⟨Zfr.sound,trivial⟩) Tryz.func218
def Zc4.S:ZaI:=⟨1,[.ptr 0 0],[.box [.sc .str,.sc (.int .i64),.sc .bool]],[.str,.int .i64,.bool],⟨[.list [.int .i64],.list [.int .i64],.str,.int .i64,.bool],.tup [.sc (.list [.int .i64]),.sc (.list [.int .i64])],[.box [.sc .str,.sc (.int .i64),.sc .bool]]⟩,
 fun ((s,at_,bad):Str×Int×Bool)=>Zc4 s at_ bad⟩
theorem Zc4.ev:∀d,Za2 C0 (hnd (tab [(175,ZaO.S),(185,ZdB.S),(209,Zfr.S),(215,ZaW.S),(217,ZaS.S),(218,ZdZ.S)])) Tryz.f212 (.seq .u (.seq .u (.seq .u (.seq .u (.seq .u (.seq (.seq .u (.blk (.loop ⟨[.int .i64,.int .i64,.int .i64,.int .i64,.str,.int .i64,.bool,.list [.int .i64]],[(0,.ptr 0 0),(4,.sc (.int .i64)),(5,.sc (.int .i64)),(6,.sc (.int .i64)),(7,.full 1),(8,.sc (.int .i64))],[.box [.sc .str,.sc (.int .i64),.sc .bool],.arr [.int .i64]]⟩ (fun ((long,back,n,i,o,o1,o2,lens):Int×Int×Int×Int×Str×Int×Bool×List Int)=>(n-i).toNat+1) 0 ⟨[.int .i64,.int .i64,.str,.int .i64,.bool,.list [.int .i64]],[(0,.ptr 0 0),(4,.sc (.int .i64)),(5,.sc (.int .i64)),(7,.full 1)],[.box [.sc .str,.sc (.int .i64),.sc .bool],.arr [.int .i64]]⟩ (.seq .u (.seq (.blk (.cm [(0,[0]),(2,[0]),(3,[0]),(4,[0])])) .u))))) (.seq (.seq (.reg [.bool] [(44,.sc .bool)]) .u) (.seq .u (.seq .u (.seq (.blk (.loop ⟨[.int .i64,.int .i64,.str,.int .i64,.bool,.list [.int .i64],.list [.int .i64],.list [.int .i64]],[(0,.ptr 0 0),(4,.sc (.int .i64)),(5,.sc (.int .i64)),(7,.full 1),(9,.full 2),(10,.full 3)],[.box [.sc .str,.sc (.int .i64),.sc .bool],.arr [.int .i64],.arr [.int .i64],.arr [.int .i64]]⟩ (fun ((long2,back2,o6,o7,o8,lens2,codes_,all):Int×Int×Str×Int×Bool×List Int×List Int×List Int)=>((w64 (long2+back2))-(all.length:Int)).toNat+1) 2 ⟨[.int .i64,.int .i64,.str,.int .i64,.bool,.list [.int .i64]],[(0,.ptr 0 0),(4,.sc (.int .i64)),(5,.sc (.int .i64)),(10,.full 1)],[.box [.sc .str,.sc (.int .i64),.sc .bool],.arr [.int .i64]]⟩ (.seq (.seq (.reg [.bool] [(65,.sc .bool)]) .u) .u))) (.seq (.seq (.reg [.bool] [(98,.sc .bool)]) .u) .u))))))))))) Zc4.S d=Zc4.S.F d:=fun _=>by kernel_rfl
theorem Zc4.sound:Zah Tryz.prog C0 212 Zc4.S:=sE Za4 Zc4.ev (Zai ⟨ZaO.sound,ZdB.sound,Zfr.sound,ZaW.sound,ZaS.sound,ZdZ.sound,trivial⟩) Tryz.func212
def Zjs.S:ZaI:=⟨1,[.ptr 0 0,.full 1],[.box [.sc .str,.sc (.int .i64),.sc .bool],.arr [.int .u8]],[.str,.int .i64,.bool,.list [.int .u8]],⟨[.bool,.str,.int .i64,.bool,.list [.int .u8]],.tup [.full 1,.sc .bool],[.box [.sc .str,.sc (.int .i64),.sc .bool],.arr [.int .u8]]⟩,
 fun ((s,at_,bad,text):Str×Int×Bool×List Int)=>Zjs s at_ bad text⟩
theorem Zjs.ev:∀d,Za2 C0 (hnd (tab [(144,Zc5.S),(145,Zc6.S),(208,Zkv.S),(209,Zfr.S),(210,ZbS.S),(211,Zb9.S),(212,Zc4.S)])) Tryz.f198 .u Zjs.S d=Zjs.S.F d:=fun _=>by kernel_rfl
theorem Zjs.sound:Zah Tryz.prog C0 198 Zjs.S:=sE Za4 Zjs.ev (Zai ⟨Zc5.sound,Zc6.sound,Zkv.sound,Zfr.sound,ZbS.sound,Zb9.sound,Zc4.sound,trivial⟩) Tryz.func198
def ZeN.S:ZaI:=⟨0,[.sc .str],[],[.str],⟨[.str,.int .i64,.bool],.tup [.sc .str,.sc (.int .i64),.sc .bool],[]⟩,
 fun (text:Str)=>ZeN text⟩
theorem ZeN.ev:∀d,Za2 C0 (hnd (tab [(198,Zjs.S),(199,ZcX.S)])) Tryz.f173 (.seq .u (.seq .u (.seq .u (.seq .u (.seq (.blk (.loop ⟨[.bool,.str,.int .i64,.bool,.list [.int .u8]],[(5,.ptr 0 0),(6,.full 1),(7,.sc .bool)],[.box [.sc .str,.sc (.int .i64),.sc .bool],.arr [.int .u8]]⟩ (fun ((last,o,o1,o2,out):Bool×Str×Int×Bool×List Int)=>100000) 0 ⟨[.str,.int .i64,.bool,.list [.int .u8]],[(5,.ptr 0 0),(6,.full 1)],[.box [.sc .str,.sc (.int .i64),.sc .bool],.arr [.int .u8]]⟩ (.seq (.seq (.reg [.bool] [(23,.sc .bool)]) .u) .u))) (.seq .u (.seq (.seq (.reg [.bool] [(46,.sc .bool)]) .u) .u))))))) ZeN.S d=ZeN.S.F d:=fun _=>by kernel_rfl
theorem ZeN.sound:Zah Tryz.prog C0 173 ZeN.S:=sE Za4 ZeN.ev (Zai ⟨Zjs.sound,ZcX.sound,trivial⟩) Tryz.func173
def Zba.S:ZaI:=⟨0,[.sc .str],[],[.str],⟨[.str,.int .i64,.bool],.tup [.sc .str,.sc (.int .i64),.sc .bool],[]⟩,
 fun (text:Str)=>Zba text⟩
theorem Zba.ev:∀d,Za2 C0 (hnd (tab [(173,ZeN.S)])) Tryz.f139 .u Zba.S d=Zba.S.F d:=fun _=>by kernel_rfl
theorem Zba.sound:Zah Tryz.prog C0 139 Zba.S:=sE Za4 Zba.ev (Zai ⟨ZeN.sound,trivial⟩) Tryz.func139
def Zbr.S:ZaI:=⟨0,[.sc .str],[],[.str],⟨[.int .i64],.sc (.int .i64),[]⟩,
 fun (text:Str)=>Zbr text⟩
theorem Zbr.ev:∀d,Za2 C0 (hnd (tab [(139,Zba.S)])) Tryz.f96 .u Zbr.S d=Zbr.S.F d:=fun _=>by kernel_rfl
theorem Zbr.sound:Zah Tryz.prog C0 96 Zbr.S:=sE Za4 Zbr.ev (Zai ⟨Zba.sound,trivial⟩) Tryz.func96
def ZgW.S:ZaI:=⟨0,[.sc (.int .i64),.sc (.int .i64)],[],[.int .i64,.int .i64],⟨[.int .i64],.sc (.int .i64),[]⟩,
 fun ((year,month):Int×Int)=>ZgW year month⟩
theorem ZgW.ev:∀d,Za2 C0 (hnd (tab [])) Tryz.f172 (.seq .u (.seq (.seq .u (.blk (.join ⟨[.int .i64,.int .i64,.bool],[(0,.sc (.int .i64)),(5,.sc (.int .i64)),(6,.sc .bool)],[]⟩ .u (.cond .u (.seq .u (.cond (.seq (.seq (.reg [.bool] [(25,.sc .bool)]) .u) .u) .u)))))) .u)) ZgW.S d=ZgW.S.F d:=fun _=>by kernel_rfl
theorem ZgW.sound:Zah Tryz.prog C0 172 ZgW.S:=sE Za4 ZgW.ev (Zai trivial) Tryz.func172
def Zb1.S:ZaI:=⟨0,[.agg [.sc (.int .i64),.sc (.int .i64),.sc (.int .i64),.sc (.int .i64),.sc (.int .i64),.sc (.int .i64)]],[],[.int .i64,.int .i64,.int .i64,.int .i64,.int .i64,.int .i64],⟨[.bool],.sc .bool,[]⟩,
 fun ((y,mo,d,h,mi,sec):Int×Int×Int×Int×Int×Int)=>Zb1 y mo d h mi sec⟩
theorem Zb1.ev:∀d,Za2 C0 (hnd (tab [(131,ZhI.S),(172,ZgW.S)])) Tryz.f136 (.seq .u (.seq (.reg [.bool] [(3,.sc .bool)]) (.seq (.reg [.bool] [(2,.sc .bool)]) .u))) Zb1.S d=Zb1.S.F d:=fun _=>by kernel_rfl
theorem Zb1.sound:Zah Tryz.prog C0 136 Zb1.S:=sE Za4 Zb1.ev (Zai ⟨ZhI.sound,ZgW.sound,trivial⟩) Tryz.func136
def ZjE.S:ZaI:=⟨0,[.agg [.sc (.int .i64),.sc (.int .i64),.sc (.int .i64),.sc (.int .i64),.sc (.int .i64),.sc (.int .i64)]],[],[.int .i64,.int .i64,.int .i64,.int .i64,.int .i64,.int .i64],⟨[.int .i64],.sc (.int .i64),[]⟩,
 fun ((y,mo,d,h,mi,sec):Int×Int×Int×Int×Int×Int)=>ZjE y mo d h mi sec⟩
theorem ZjE.ev:∀d,Za2 C0 (hnd (tab [])) Tryz.f129 .u ZjE.S d=ZjE.S.F d:=fun _=>by kernel_rfl
theorem ZjE.sound:Zah Tryz.prog C0 129 ZjE.S:=sE Za4 ZjE.ev (Zai trivial) Tryz.func129
def ZjF.S:ZaI:=⟨0,[.sc (.int .i64)],[],[.int .i64],⟨[.int .i64,.int .i64,.int .i64,.int .i64,.int .i64,.int .i64],.agg [.sc (.int .i64),.sc (.int .i64),.sc (.int .i64),.sc (.int .i64),.sc (.int .i64),.sc (.int .i64)],[]⟩,
 fun (n:Int)=>ZjF n⟩
theorem ZjF.ev:∀d,Za2 C0 (hnd (tab [])) Tryz.f170 .u ZjF.S d=ZjF.S.F d:=fun _=>by kernel_rfl
theorem ZjF.sound:Zah Tryz.prog C0 170 ZjF.S:=sE Za4 ZjF.ev (Zai trivial) Tryz.func170
def ZaL.S:ZaI:=⟨0,[.agg [.sc .str,.sc (.int .i64),.sc (.int .i64),.sc (.int .i64),.sc (.int .i64),.sc (.int .i64),.sc (.int .i64),.sc .str]],[],[.str,.int .i64,.int .i64,.int .i64,.int .i64,.int .i64,.int .i64,.str],⟨[.bool],.sc .bool,[]⟩,
 fun ((name,y,mo,d,h,mi,sec,text):Str×Int×Int×Int×Int×Int×Int×Str)=>ZaL name y mo d h mi sec text⟩
theorem ZaL.ev:∀d,Za2 C0 (hnd (tab [(92,Zap.S),(136,Zb1.S)])) Tryz.f90 (.seq .u (.seq (.reg [.bool] [(2,.sc .bool)]) .u)) ZaL.S d=ZaL.S.F d:=fun _=>by kernel_rfl
theorem ZaL.sound:Zah Tryz.prog C0 90 ZaL.S:=sE Za4 ZaL.ev (Zai ⟨Zap.sound,Zb1.sound,trivial⟩) Tryz.func90
def Zax.S:ZaI:=⟨0,[.sc (.int .i64),.sc (.int .i64)],[],[.int .i64,.int .i64],⟨[.str],.sc .str,[]⟩,
 fun ((n,many):Int×Int)=>Zax n many⟩
theorem Zax.ev:∀d,Za2 C0 (hnd (tab [])) Tryz.f84 (.seq .u (.seq .u (.seq (.seq .u (.blk (.loop ⟨[.int .i64,.int .i64,.int .i64,.list [.int .u8]],[(0,.sc (.int .i64)),(1,.sc (.int .i64)),(5,.full 0),(6,.sc (.int .i64))],[.arr [.int .u8]]⟩ (fun ((n1,many1,i,out):Int×Int×Int×List Int)=>(many1-i).toNat+1) 0 ⟨[.list [.int .u8]],[(5,.full 0)],[.arr [.int .u8]]⟩ .u))) .u))) Zax.S d=Zax.S.F d:=fun _=>by kernel_rfl
theorem Zax.sound:Zah Tryz.prog C0 84 Zax.S:=sE Za4 Zax.ev (Zai trivial) Tryz.func84
def Zch.S:ZaI:=⟨0,[.sc .str,.sc (.int .i64),.sc (.int .i64)],[],[.str,.int .i64,.int .i64],⟨[.int .i64],.sc (.int .i64),[]⟩,
 fun ((s,at_,many):Str×Int×Int)=>Zch s at_ many⟩
theorem Zch.ev:∀d,Za2 C0 (hnd (tab [])) Tryz.f130 (.seq .u (.seq .u (.seq (.seq (.reg [.bool] [(18,.sc .bool)]) .u) (.seq (.seq .u (.blk (.loop ⟨[.str,.int .i64,.int .i64,.int .i64],[(0,.sc .str),(1,.sc (.int .i64)),(7,.sc (.int .i64)),(8,.sc (.int .i64))],[]⟩ (fun ((s1,at_1,n,i):Str×Int×Int×Int)=>(i-0).toNat+2) 0 ⟨[.int .i64],[(7,.sc (.int .i64))],[]⟩ .u))) .u)))) Zch.S d=Zch.S.F d:=fun _=>by kernel_rfl
theorem Zch.sound:Zah Tryz.prog C0 130 Zch.S:=sE Za4 Zch.ev (Zai trivial) Tryz.func130
def ZhH.S:ZaI:=⟨0,[.sc .str],[],[.str],⟨[.int .i64,.str],.tup [.sc (.int .i64),.sc .str],[]⟩,
 fun (text:Str)=>ZhH text⟩
theorem ZhH.ev:∀d,Za2 C0 (hnd (tab [(57,Zak.S)])) Tryz.f86 .u ZhH.S d=ZhH.S.F d:=fun _=>by kernel_rfl
theorem ZhH.sound:Zah Tryz.prog C0 86 ZhH.S:=sE Za4 ZhH.ev (Zai ⟨Zak.sound,trivial⟩) Tryz.func86
def ZcO.S:ZaI:=⟨0,[.agg [.sc .str,.sc (.int .i64),.sc (.int .i64),.sc (.int .i64),.sc (.int .i64),.sc (.int .i64),.sc (.int .i64),.sc .str]],[],[.str,.int .i64,.int .i64,.int .i64,.int .i64,.int .i64,.int .i64,.str],⟨[.str],.sc .str,[]⟩,
 fun ((name,y,mo,d,h,mi,sec,text):Str×Int×Int×Int×Int×Int×Int×Str)=>ZcO name y mo d h mi sec text⟩
theorem ZcO.ev:∀d,Za2 C0 (hnd (tab [(54,ZcR.S),(84,Zax.S),(86,ZhH.S),(129,ZjE.S)])) Tryz.f85 .u ZcO.S d=ZcO.S.F d:=fun _=>by kernel_rfl
theorem ZcO.sound:Zah Tryz.prog C0 85 ZcO.S:=sE Za4 ZcO.ev (Zai ⟨ZcR.sound,Zax.sound,ZhH.sound,ZjE.sound,trivial⟩) Tryz.func85
def ZeD.S:ZaI:=⟨0,[.agg [.sc .str,.sc (.int .i64),.sc (.int .i64),.sc (.int .i64),.sc (.int .i64),.sc (.int .i64),.sc (.int .i64),.sc .str]],[],[.str,.int .i64,.int .i64,.int .i64,.int .i64,.int .i64,.int .i64,.str],⟨[.str],.sc .str,[]⟩,
 fun ((name,y,mo,d,h,mi,sec,text):Str×Int×Int×Int×Int×Int×Int×Str)=>ZeD name y mo d h mi sec text⟩
theorem ZeD.ev:∀d,Za2 C0 (hnd (tab [(84,Zax.S),(85,ZcO.S),(86,ZhH.S)])) Tryz.f42 .u ZeD.S d=ZeD.S.F d:=fun _=>by kernel_rfl
theorem ZeD.sound:Zah Tryz.prog C0 42 ZeD.S:=sE Za4 ZeD.ev (Zai ⟨Zax.sound,ZcO.sound,ZhH.sound,trivial⟩) Tryz.func42
def Zgp.S:ZaI:=⟨0,[.sc (.int .i64),.sc .str],[],[.int .i64,.str],⟨[.str,.bool],.tup [.sc .str,.sc .bool],[]⟩,
 fun ((how,packed):Int×Str)=>Zgp how packed⟩
theorem Zgp.ev:∀d,Za2 C0 (hnd (tab [(139,Zba.S)])) Tryz.f171 (.seq .u (.seq .u (.seq .u (.seq (.reg [.str,.bool] [(4,.sc .str),(5,.sc .bool)]) .u)))) Zgp.S d=Zgp.S.F d:=fun _=>by kernel_rfl
theorem Zgp.sound:Zah Tryz.prog C0 171 Zgp.S:=sE Za4 Zgp.ev (Zai ⟨Zba.sound,trivial⟩) Tryz.func171
def ZeS.S:ZaI:=⟨0,[.sc .str],[],[.str],⟨[.str,.int .i64,.int .i64,.int .i64,.int .i64,.int .i64,.int .i64,.str,.int .i64,.bool],.tup [.agg [.sc .str,.sc (.int .i64),.sc (.int .i64),.sc (.int .i64),.sc (.int .i64),.sc (.int .i64),.sc (.int .i64),.sc .str],.sc (.int .i64),.sc .bool],[]⟩,
 fun (text:Str)=>ZeS text⟩
theorem ZeS.ev:∀d,Za2 C0 (hnd (tab [(54,ZcR.S),(90,ZaL.S),(130,Zch.S),(170,ZjF.S),(171,Zgp.S)])) Tryz.f135 (.seq .u (.seq .u (.seq .u (.seq (.reg [.bool] [(7,.sc .bool)]) (.seq (.seq (.reg [.bool] [(51,.sc .bool)]) .u) (.seq .u (.seq .u (.seq .u (.seq (.reg [.bool] [(10,.sc .bool)]) (.seq (.cm [(1,[0]),(2,[0]),(3,[0]),(4,[0]),(9,[0])]) .u)))))))))) ZeS.S d=ZeS.S.F d:=fun _=>by kernel_rfl
theorem ZeS.sound:Zah Tryz.prog C0 135 ZeS.S:=sE Za4 ZeS.ev (Zai ⟨ZcR.sound,ZaL.sound,Zch.sound,ZjF.sound,Zgp.sound,trivial⟩) Tryz.func135
def Zfz.S:ZaI:=⟨0,[.sc (.list [.str,.int .i64,.int .i64,.int .i64,.int .i64,.int .i64,.int .i64,.str]),.sc .str],[],[.list [.str,.int .i64,.int .i64,.int .i64,.int .i64,.int .i64,.int .i64,.str],.str],⟨[.int .i64],.sc (.int .i64),[]⟩,
 fun ((list,name):(List (Str×Int×Int×Int×Int×Int×Int×Str))×Str)=>Zfz list name⟩
theorem Zfz.ev:∀d,Za2 C0 (hnd (tab [])) Tryz.f89 (.seq .u (.seq (.seq .u (.blk (.loopS ⟨[.list [.str,.int .i64,.int .i64,.int .i64,.int .i64,.int .i64,.int .i64,.str],.str,.int .i64],[(0,.sc (.list [.str,.int .i64,.int .i64,.int .i64,.int .i64,.int .i64,.int .i64,.str])),(1,.sc .str),(5,.sc (.int .i64))],[]⟩ (fun ((list1,name1,i):(List (Str×Int×Int×Int×Int×Int×Int×Str))×Str×Int)=>((list1.length:Int)-i).toNat+1) 0 ⟨[],[],[]⟩ .u))) .u)) Zfz.S d=Zfz.S.F d:=fun _=>by kernel_rfl
theorem Zfz.sound:Zah Tryz.prog C0 89 Zfz.S:=sE Za4 Zfz.ev (Zai trivial) Tryz.func89
def ZaC.S:ZaI:=⟨0,[.sc (.list [.str,.int .i64,.int .i64,.int .i64,.int .i64,.int .i64,.int .i64,.str])],[],[.list [.str,.int .i64,.int .i64,.int .i64,.int .i64,.int .i64,.int .i64,.str]],⟨[.bool],.sc .bool,[]⟩,
 fun (list:List (Str×Int×Int×Int×Int×Int×Int×Str))=>ZaC list⟩
theorem ZaC.ev:∀d,Za2 C0 (hnd (tab [(89,Zfz.S),(90,ZaL.S),(137,Zdr.S)])) Tryz.f133 (.seq .u (.seq (.seq .u (.blk (.loopS ⟨[.list [.str,.int .i64,.int .i64,.int .i64,.int .i64,.int .i64,.int .i64,.str],.int .i64],[(0,.sc (.list [.str,.int .i64,.int .i64,.int .i64,.int .i64,.int .i64,.int .i64,.str])),(3,.sc (.int .i64))],[]⟩ (fun ((list1,i):(List (Str×Int×Int×Int×Int×Int×Int×Str))×Int)=>((list1.length:Int)-i).toNat+1) 0 ⟨[.list [.str,.int .i64,.int .i64,.int .i64,.int .i64,.int .i64,.int .i64,.str]],[(0,.sc (.list [.str,.int .i64,.int .i64,.int .i64,.int .i64,.int .i64,.int .i64,.str]))],[]⟩ (.seq .u (.seq (.blk (.seq (.seq (.reg [.bool] [(27,.sc .bool)]) .u) (.seq .u (.blk (.loopS ⟨[.list [.str,.int .i64,.int .i64,.int .i64,.int .i64,.int .i64,.int .i64,.str],.int .i64,.int .i64],[(0,.sc (.list [.str,.int .i64,.int .i64,.int .i64,.int .i64,.int .i64,.int .i64,.str])),(3,.sc (.int .i64)),(4,.sc (.int .i64))],[]⟩ (fun ((list2,i1,k):(List (Str×Int×Int×Int×Int×Int×Int×Str))×Int×Int)=>((list2.length:Int)-k).toNat+1) 2 ⟨[.list [.str,.int .i64,.int .i64,.int .i64,.int .i64,.int .i64,.int .i64,.str],.int .i64],[(0,.sc (.list [.str,.int .i64,.int .i64,.int .i64,.int .i64,.int .i64,.int .i64,.str])),(3,.sc (.int .i64))],[]⟩ .u))))) .u))))) .u)) ZaC.S d=ZaC.S.F d:=fun _=>by kernel_rfl
theorem ZaC.sound:Zah Tryz.prog C0 133 ZaC.S:=sE Za4 ZaC.ev (Zai ⟨Zfz.sound,ZaL.sound,Zdr.sound,trivial⟩) Tryz.func133
def ZcY.S:ZaI:=⟨0,[.agg [.sc .str,.sc (.int .i64),.sc (.int .i64),.sc (.int .i64),.sc (.int .i64),.sc (.int .i64),.sc (.int .i64),.sc .str],.sc (.int .i64)],[],[.str,.int .i64,.int .i64,.int .i64,.int .i64,.int .i64,.int .i64,.str,.int .i64],⟨[.str],.sc .str,[]⟩,
 fun ((name,y,mo,d,h,mi,sec,text,at_):Str×Int×Int×Int×Int×Int×Int×Str×Int)=>ZcY name y mo d h mi sec text at_⟩
theorem ZcY.ev:∀d,Za2 C0 (hnd (tab [(84,Zax.S),(85,ZcO.S)])) Tryz.f41 .u ZcY.S d=ZcY.S.F d:=fun _=>by kernel_rfl
theorem ZcY.sound:Zah Tryz.prog C0 41 ZcY.S:=sE Za4 ZcY.ev (Zai ⟨Zax.sound,ZcO.sound,trivial⟩) Tryz.func41
def ZhG.S:ZaI:=⟨0,[.sc (.int .i64),.sc (.int .i64),.sc (.int .i64)],[],[.int .i64,.int .i64,.int .i64],⟨[.str],.sc .str,[]⟩,
 fun ((many,long,at_):Int×Int×Int)=>ZhG many long at_⟩
theorem ZhG.ev:∀d,Za2 C0 (hnd (tab [(84,Zax.S)])) Tryz.f43 .u ZhG.S d=ZhG.S.F d:=fun _=>by kernel_rfl
theorem ZhG.sound:Zah Tryz.prog C0 43 ZhG.S:=sE Za4 ZhG.ev (Zai ⟨Zax.sound,trivial⟩) Tryz.func43
def ZcS.S:ZaI:=⟨0,[.sc (.list [.str,.int .i64,.int .i64,.int .i64,.int .i64,.int .i64,.int .i64,.str])],[],[.list [.str,.int .i64,.int .i64,.int .i64,.int .i64,.int .i64,.int .i64,.str]],⟨[.str],.sc .str,[]⟩,
 fun (list:List (Str×Int×Int×Int×Int×Int×Int×Str))=>ZcS list⟩
theorem ZcS.ev:∀d,Za2 C0 (hnd (tab [(41,ZcY.S),(42,ZeD.S),(43,ZhG.S)])) Tryz.f21 (.seq .u (.seq .u (.seq .u (.seq (.seq .u (.blk (.loop ⟨[.list [.str,.int .i64,.int .i64,.int .i64,.int .i64,.int .i64,.int .i64,.str],.str,.str,.int .i64],[(0,.sc (.list [.str,.int .i64,.int .i64,.int .i64,.int .i64,.int .i64,.int .i64,.str])),(3,.sc .str),(4,.sc .str),(5,.sc (.int .i64))],[]⟩ (fun ((list1,out,heads,i):(List (Str×Int×Int×Int×Int×Int×Int×Str))×Str×Str×Int)=>((list1.length:Int)-i).toNat+1) 0 ⟨[.list [.str,.int .i64,.int .i64,.int .i64,.int .i64,.int .i64,.int .i64,.str],.str,.str],[(0,.sc (.list [.str,.int .i64,.int .i64,.int .i64,.int .i64,.int .i64,.int .i64,.str])),(3,.sc .str),(4,.sc .str)],[]⟩ .u))) .u)))) ZcS.S d=ZcS.S.F d:=fun _=>by kernel_rfl
theorem ZcS.sound:Zah Tryz.prog C0 21 ZcS.S:=sE Za4 ZcS.ev (Zai ⟨ZcY.sound,ZeD.sound,ZhG.sound,trivial⟩) Tryz.func21
def Zfi.S:ZaI:=⟨0,[.sc .str,.sc (.int .i64)],[],[.str,.int .i64],⟨[.int .i64,.bool,.list [.str,.int .i64,.int .i64,.int .i64,.int .i64,.int .i64,.int .i64,.str]],.tup [.full 0,.sc (.int .i64),.sc .bool],[.arr [.str,.int .i64,.int .i64,.int .i64,.int .i64,.int .i64,.int .i64,.str]]⟩,
 fun ((text,many):Str×Int)=>Zfi text many⟩
theorem Zfi.ev:∀d,Za2 C0 (hnd (tab [(135,ZeS.S)])) Tryz.f132 (.seq .u (.seq .u (.seq .u (.seq (.seq .u (.blk (.loopS ⟨[.str,.int .i64,.int .i64,.int .i64,.list [.str,.int .i64,.int .i64,.int .i64,.int .i64,.int .i64,.int .i64,.str]],[(0,.sc .str),(1,.sc (.int .i64)),(7,.full 0),(8,.sc (.int .i64)),(9,.sc (.int .i64))],[.arr [.str,.int .i64,.int .i64,.int .i64,.int .i64,.int .i64,.int .i64,.str]]⟩ (fun ((text1,many1,at_,i,out):Str×Int×Int×Int×List (Str×Int×Int×Int×Int×Int×Int×Str))=>(many1-i).toNat+1) 0 ⟨[.int .i64,.list [.str,.int .i64,.int .i64,.int .i64,.int .i64,.int .i64,.int .i64,.str]],[(7,.full 0),(8,.sc (.int .i64))],[.arr [.str,.int .i64,.int .i64,.int .i64,.int .i64,.int .i64,.int .i64,.str]]⟩ .u))) .u)))) Zfi.S d=Zfi.S.F d:=fun _=>by kernel_rfl
theorem Zfi.sound:Zah Tryz.prog C0 132 Zfi.S:=sE Za4 Zfi.ev (Zai ⟨ZeS.sound,trivial⟩) Tryz.func132
def Zgo.S:ZaI:=⟨0,[.sc .str,.sc (.int .i64),.sc (.int .i64)],[],[.str,.int .i64,.int .i64],⟨[.int .i64,.bool],.tup [.sc (.int .i64),.sc .bool],[]⟩,
 fun ((text,head,at_):Str×Int×Int)=>Zgo text head at_⟩
theorem Zgo.ev:∀d,Za2 C0 (hnd (tab [(84,Zax.S),(130,Zch.S)])) Tryz.f134 (.seq .u (.seq .u (.seq .u (.seq (.seq (.reg [.bool] [(36,.sc .bool)]) .u) (.seq (.reg [.bool] [(10,.sc .bool)]) (.seq (.reg [.bool] [(11,.sc .bool)]) (.seq (.reg [.int .i64,.bool] [(6,.sc (.int .i64)),(7,.sc .bool)]) .u))))))) Zgo.S d=Zgo.S.F d:=fun _=>by kernel_rfl
theorem Zgo.sound:Zah Tryz.prog C0 134 Zgo.S:=sE Za4 Zgo.ev (Zai ⟨Zax.sound,Zch.sound,trivial⟩) Tryz.func134
def Zao.S:ZaI:=⟨0,[.sc .str],[],[.str],⟨[.bool,.list [.str,.int .i64,.int .i64,.int .i64,.int .i64,.int .i64,.int .i64,.str]],.tup [.full 0,.sc .bool],[.arr [.str,.int .i64,.int .i64,.int .i64,.int .i64,.int .i64,.int .i64,.str]]⟩,
 fun (text:Str)=>Zao text⟩
theorem Zao.ev:∀d,Za2 C0 (hnd (tab [(43,ZhG.S),(130,Zch.S),(131,ZhI.S),(132,Zfi.S),(133,ZaC.S),(134,Zgo.S),(135,ZeS.S)])) Tryz.f87 (.seq .u (.seq .u (.seq .u (.seq .u (.seq (.seq (.reg [.bool] [(38,.sc .bool)]) .u) (.seq .u (.seq .u (.seq (.seq .u (.blk (.loopS ⟨[.str,.int .i64,.int .i64,.int .i64,.int .i64,.int .i64,.list [.str,.int .i64,.int .i64,.int .i64,.int .i64,.int .i64,.int .i64,.str]],[(0,.sc .str),(4,.sc (.int .i64)),(5,.full 0),(6,.sc (.int .i64)),(8,.sc (.int .i64)),(9,.sc (.int .i64)),(10,.sc (.int .i64))],[.arr [.str,.int .i64,.int .i64,.int .i64,.int .i64,.int .i64,.int .i64,.str]]⟩ (fun ((text1,many,at_,head,own,i,list):Str×Int×Int×Int×Int×Int×List (Str×Int×Int×Int×Int×Int×Int×Str))=>(many-i).toNat+1) 0 ⟨[.str,.int .i64,.int .i64,.int .i64,.list [.str,.int .i64,.int .i64,.int .i64,.int .i64,.int .i64,.int .i64,.str]],[(0,.sc .str),(4,.sc (.int .i64)),(5,.full 0),(6,.sc (.int .i64)),(8,.sc (.int .i64))],[.arr [.str,.int .i64,.int .i64,.int .i64,.int .i64,.int .i64,.int .i64,.str]]⟩ .u))) .u)))))))) Zao.S d=Zao.S.F d:=fun _=>by kernel_rfl
theorem Zao.sound:Zah Tryz.prog C0 87 Zao.S:=sE Za4 Zao.ev (Zai ⟨ZhG.sound,Zch.sound,ZhI.sound,Zfi.sound,ZaC.sound,Zgo.sound,ZeS.sound,trivial⟩) Tryz.func87
end Ev
end
section
open Go Go.Proofs
set_option maxRecDepth 100000
namespace Ev
set_option maxHeartbeats 1000000
def ZbZ.S:ZaI:=⟨0,[.sc .str,.sc .str],[],[.str,.str],⟨[.str,.bool],.tup [.sc .str,.sc .bool],[]⟩,
 fun ((text,name):Str×Str)=>ZbZ text name⟩
theorem ZbZ.ev:∀d,Za2 C0 (hnd (tab [(87,Zao.S),(89,Zfz.S)])) Tryz.f51 .u ZbZ.S d=ZbZ.S.F d:=fun _=>by kernel_rfl
theorem ZbZ.sound:Zah Tryz.prog C0 51 ZbZ.S:=sE Za4 ZbZ.ev (Zai ⟨Zao.sound,Zfz.sound,trivial⟩) Tryz.func51
def ZbQ.S:ZaI:=⟨0,[.sc (.list [.str,.int .i64,.int .i64,.int .i64,.int .i64,.int .i64,.int .i64,.str]),.sc .str],[],[.list [.str,.int .i64,.int .i64,.int .i64,.int .i64,.int .i64,.int .i64,.str],.str],⟨[.bool],.sc .bool,[]⟩,
 fun ((list,name):(List (Str×Int×Int×Int×Int×Int×Int×Str))×Str)=>ZbQ list name⟩
theorem ZbQ.ev:∀d,Za2 C0 (hnd (tab [(137,Zdr.S)])) Tryz.f93 (.seq .u (.seq (.seq .u (.blk (.loopS ⟨[.list [.str,.int .i64,.int .i64,.int .i64,.int .i64,.int .i64,.int .i64,.str],.str,.int .i64],[(0,.sc (.list [.str,.int .i64,.int .i64,.int .i64,.int .i64,.int .i64,.int .i64,.str])),(1,.sc .str),(5,.sc (.int .i64))],[]⟩ (fun ((list1,name1,i):(List (Str×Int×Int×Int×Int×Int×Int×Str))×Str×Int)=>((list1.length:Int)-i).toNat+1) 0 ⟨[],[],[]⟩ (.seq .u (.seq (.blk (.seq (.reg [.bool] [(36,.sc .bool)]) .u)) .u))))) .u)) ZbQ.S d=ZbQ.S.F d:=fun _=>by kernel_rfl
theorem ZbQ.sound:Zah Tryz.prog C0 93 ZbQ.S:=sE Za4 ZbQ.ev (Zai ⟨Zdr.sound,trivial⟩) Tryz.func93
def Zcg.S:ZaI:=⟨0,[.sc (.list [.str,.int .i64,.int .i64,.int .i64,.int .i64,.int .i64,.int .i64,.str]),.sc (.int .i64)],[],[.list [.str,.int .i64,.int .i64,.int .i64,.int .i64,.int .i64,.int .i64,.str],.int .i64],⟨[.list [.str,.int .i64,.int .i64,.int .i64,.int .i64,.int .i64,.int .i64,.str]],.full 0,[.arr [.str,.int .i64,.int .i64,.int .i64,.int .i64,.int .i64,.int .i64,.str]]⟩,
 fun ((list,k):(List (Str×Int×Int×Int×Int×Int×Int×Str))×Int)=>Zcg list k⟩
theorem Zcg.ev:∀d,Za2 C0 (hnd (tab [])) Tryz.f94 .u Zcg.S d=Zcg.S.F d:=fun _=>by kernel_rfl
theorem Zcg.sound:Zah Tryz.prog C0 94 Zcg.S:=sE Za4 Zcg.ev (Zai trivial) Tryz.func94
def ZjC.S:ZaI:=⟨0,[.full 0,.agg [.sc .str,.sc (.int .i64),.sc (.int .i64),.sc (.int .i64),.sc (.int .i64),.sc (.int .i64),.sc (.int .i64),.sc .str]],[.arr [.str,.int .i64,.int .i64,.int .i64,.int .i64,.int .i64,.int .i64,.str]],[.str,.int .i64,.int .i64,.int .i64,.int .i64,.int .i64,.int .i64,.str,.list [.str,.int .i64,.int .i64,.int .i64,.int .i64,.int .i64,.int .i64,.str]],⟨[.int .i64,.list [.str,.int .i64,.int .i64,.int .i64,.int .i64,.int .i64,.int .i64,.str]],.tup [.full 0,.sc (.int .i64)],[.arr [.str,.int .i64,.int .i64,.int .i64,.int .i64,.int .i64,.int .i64,.str]]⟩,
 fun ((name,y,mo,d,h,mi,sec,text,list):Str×Int×Int×Int×Int×Int×Int×Str×List (Str×Int×Int×Int×Int×Int×Int×Str))=>ZjC name y mo d h mi sec text list⟩
theorem ZjC.ev:∀d,Za2 C0 (hnd (tab [(90,ZaL.S),(93,ZbQ.S)])) Tryz.f88 .u ZjC.S d=ZjC.S.F d:=fun _=>by kernel_rfl
theorem ZjC.sound:Zah Tryz.prog C0 88 ZjC.S:=sE Za4 ZjC.ev (Zai ⟨ZaL.sound,ZbQ.sound,trivial⟩) Tryz.func88
def Zct.S:ZaI:=⟨0,[.sc .str,.agg [.sc .str,.sc (.int .i64),.sc (.int .i64),.sc (.int .i64),.sc (.int .i64),.sc (.int .i64),.sc (.int .i64),.sc .str]],[],[.str,.str,.int .i64,.int .i64,.int .i64,.int .i64,.int .i64,.int .i64,.str],⟨[.str,.int .i64],.tup [.sc .str,.sc (.int .i64)],[]⟩,
 fun ((text,ename,ey,emo,ed,eh,emi,esec,etext):Str×Str×Int×Int×Int×Int×Int×Int×Str)=>Zct text ename ey emo ed eh emi esec etext⟩
theorem Zct.ev:∀d,Za2 C0 (hnd (tab [(21,ZcS.S),(87,Zao.S),(88,ZjC.S)])) Tryz.f45 .u Zct.S d=Zct.S.F d:=fun _=>by kernel_rfl
theorem Zct.sound:Zah Tryz.prog C0 45 Zct.S:=sE Za4 Zct.ev (Zai ⟨ZcS.sound,Zao.sound,ZjC.sound,trivial⟩) Tryz.func45
def Zb0.S:ZaI:=⟨0,[.sc .str,.sc .str],[],[.str,.str],⟨[.str,.int .i64],.tup [.sc .str,.sc (.int .i64)],[]⟩,
 fun ((text,name):Str×Str)=>Zb0 text name⟩
theorem Zb0.ev:∀d,Za2 C0 (hnd (tab [(21,ZcS.S),(87,Zao.S),(89,Zfz.S),(94,Zcg.S)])) Tryz.f50 .u Zb0.S d=Zb0.S.F d:=fun _=>by kernel_rfl
theorem Zb0.sound:Zah Tryz.prog C0 50 Zb0.S:=sE Za4 Zb0.ev (Zai ⟨ZcS.sound,Zao.sound,Zfz.sound,Zcg.sound,trivial⟩) Tryz.func50
def Zfy.S:ZaI:=⟨0,[.sc .str,.sc .bool],[],[.str,.bool],⟨[.str],.sc .str,[]⟩,
 fun ((text,ok):Str×Bool)=>Zfy text ok⟩
theorem Zfy.ev:∀d,Za2 C0 (hnd (tab [])) Tryz.f91 .u Zfy.S d=Zfy.S.F d:=fun _=>by kernel_rfl
theorem Zfy.sound:Zah Tryz.prog C0 91 Zfy.S:=sE Za4 Zfy.ev (Zai trivial) Tryz.func91
def ZbX.S:ZaI:=⟨0,[.sc .str,.agg [.sc .str,.sc (.int .i64),.sc (.int .i64),.sc (.int .i64),.sc (.int .i64),.sc (.int .i64),.sc (.int .i64),.sc .str]],[],[.str,.str,.int .i64,.int .i64,.int .i64,.int .i64,.int .i64,.int .i64,.str],⟨[.str,.int .i64],.tup [.sc .str,.sc (.int .i64)],[]⟩,
 fun ((text,ename,ey,emo,ed,eh,emi,esec,etext):Str×Str×Int×Int×Int×Int×Int×Int×Str)=>ZbX text ename ey emo ed eh emi esec etext⟩
theorem ZbX.ev:∀d,Za2 C0 (hnd (tab [(21,ZcS.S),(87,Zao.S),(89,Zfz.S),(90,ZaL.S),(91,Zfy.S)])) Tryz.f48 (.seq .u (.seq .u (.seq .u (.seq (.blk (.seq (.reg [.bool] [(18,.sc .bool)]) .u)) .u)))) ZbX.S d=ZbX.S.F d:=fun _=>by kernel_rfl
theorem ZbX.sound:Zah Tryz.prog C0 48 ZbX.S:=sE Za4 ZbX.ev (Zai ⟨ZcS.sound,Zao.sound,Zfz.sound,ZaL.sound,Zfy.sound,trivial⟩) Tryz.func48
def ZbY.S:ZaI:=⟨0,[.sc .str,.sc .str,.sc .str],[],[.str,.str,.str],⟨[.str,.int .i64],.tup [.sc .str,.sc (.int .i64)],[]⟩,
 fun ((text,name,to_):Str×Str×Str)=>ZbY text name to_⟩
theorem ZbY.ev:∀d,Za2 C0 (hnd (tab [(21,ZcS.S),(87,Zao.S),(89,Zfz.S),(91,Zfy.S),(92,Zap.S),(93,ZbQ.S),(94,Zcg.S)])) Tryz.f49 (.seq .u (.seq .u (.seq .u (.seq (.blk (.seq (.reg [.bool] [(19,.sc .bool)]) .u)) .u)))) ZbY.S d=ZbY.S.F d:=fun _=>by kernel_rfl
theorem ZbY.sound:Zah Tryz.prog C0 49 ZbY.S:=sE Za4 ZbY.ev (Zai ⟨ZcS.sound,Zao.sound,Zfz.sound,Zfy.sound,Zap.sound,ZbQ.sound,Zcg.sound,trivial⟩) Tryz.func49
def ZjI.S:ZaI:=⟨0,[],[],[],⟨[.int .i64,.int .i64,.int .i64,.int .i64,.int .i64,.int .i64],.agg [.sc (.int .i64),.sc (.int .i64),.sc (.int .i64),.sc (.int .i64),.sc (.int .i64),.sc (.int .i64)],[]⟩,
 fun (_:Unit)=>ZjI⟩
theorem ZjI.ev:∀d,Za2 C0 (hnd (tab [])) Tryz.f46 .u ZjI.S d=ZjI.S.F d:=fun _=>by kernel_rfl
theorem ZjI.sound:Zah Tryz.prog C0 46 ZjI.S:=sE Za4 ZjI.ev (Zai trivial) Tryz.func46
def Zd1.S:ZaI:=⟨0,[.sc (.int .i64)],[],[.int .i64],⟨[.str],.sc .str,[]⟩,
 fun (code_:Int)=>Zd1 code_⟩
theorem Zd1.ev:∀d,Za2 C0 (hnd (tab [])) Tryz.f47 .u Zd1.S d=Zd1.S.F d:=fun _=>by kernel_rfl
theorem Zd1.sound:Zah Tryz.prog C0 47 Zd1.S:=sE Za4 Zd1.ev (Zai trivial) Tryz.func47
def ZbB.S:ZaI:=⟨0,[.sc .str],[],[.str],⟨[.str],.sc .str,[]⟩,
 fun (text:Str)=>ZbB text⟩
theorem ZbB.ev:∀d,Za2 C0 (hnd (tab [(53,ZeO.S),(87,Zao.S)])) Tryz.f52 (.seq .u (.seq .u (.seq .u (.seq (.seq .u (.blk (.loop ⟨[.str,.int .i64,.list [.str,.int .i64,.int .i64,.int .i64,.int .i64,.int .i64,.int .i64,.str]],[(3,.sc .str),(4,.full 0),(6,.sc (.int .i64))],[.arr [.str,.int .i64,.int .i64,.int .i64,.int .i64,.int .i64,.int .i64,.str]]⟩ (fun ((out,i,list):Str×Int×List (Str×Int×Int×Int×Int×Int×Int×Str))=>((list.length:Int)-i).toNat+1) 0 ⟨[.str],[(3,.sc .str)],[]⟩ .u))) .u)))) ZbB.S d=ZbB.S.F d:=fun _=>by kernel_rfl
theorem ZbB.sound:Zah Tryz.prog C0 52 ZbB.S:=sE Za4 ZbB.ev (Zai ⟨ZeO.sound,Zao.sound,trivial⟩) Tryz.func52
def ZeG.S:ZaI:=⟨0,[.sc .str],[],[.str],⟨[.str],.sc .str,[]⟩,
 fun (text:Str)=>ZeG text⟩
theorem ZeG.ev:∀d,Za2 C0 (hnd (tab [(57,Zak.S),(96,Zbr.S)])) Tryz.f56 .u ZeG.S d=ZeG.S.F d:=fun _=>by kernel_rfl
theorem ZeG.sound:Zah Tryz.prog C0 56 ZeG.S:=sE Za4 ZeG.ev (Zai ⟨Zak.sound,Zbr.sound,trivial⟩) Tryz.func56
def Zds.S:ZaI:=⟨0,[.sc .str,.sc .str],[],[.str,.str],⟨[.str,.str],.tup [.sc .str,.sc .str],[]⟩,
 fun ((zip_,line_):Str×Str)=>Zds zip_ line_⟩
theorem Zds.ev:∀d,Za2 C0 (hnd (tab [(44,Zdx.S),(45,Zct.S),(46,ZjI.S),(47,Zd1.S),(48,ZbX.S),(49,ZbY.S),(50,Zb0.S),(51,ZbZ.S),(52,ZbB.S),(53,ZeO.S),(54,ZcR.S),(55,ZaT.S),(56,ZeG.S),(57,Zak.S)])) Tryz.f22 (.seq .u (.seq .u (.seq .u (.seq (.blk (.seq (.reg [.bool] [(22,.sc .bool)]) (.cond .u (.seq (.reg [.bool] [(47,.sc .bool)]) (.cond .u (.seq (.reg [.bool] [(72,.sc .bool)]) (.cond .u (.seq (.reg [.bool] [(95,.sc .bool)]) (.cond .u (.seq (.reg [.bool] [(115,.sc .bool)]) (.cond .u (.seq .u (.cond .u (.seq .u (.cond .u (.seq (.reg [.bool] [(152,.sc .bool)]) (.cond .u (.seq (.reg [.bool] [(175,.sc .bool)]) .u)))))))))))))))))) .u)))) Zds.S d=Zds.S.F d:=fun _=>by kernel_rfl
theorem Zds.sound:Zah Tryz.prog C0 22 Zds.S:=sE Za4 Zds.ev (Zai ⟨Zdx.sound,Zct.sound,ZjI.sound,Zd1.sound,ZbX.sound,ZbY.sound,Zb0.sound,ZbZ.sound,ZbB.sound,ZeO.sound,ZcR.sound,ZaT.sound,ZeG.sound,Zak.sound,trivial⟩) Tryz.func22
def Zam.S:ZaI:=⟨0,[.sc (.list [.str])],[],[.list [.str]],⟨[.str],.sc .str,[]⟩,
 fun (lines:List Str)=>Zam lines⟩
theorem Zam.ev:∀d,Za2 C0 (hnd (tab [(21,ZcS.S),(22,Zds.S)])) Tryz.f10 (.seq .u (.seq .u (.seq .u (.seq (.seq .u (.blk (.loop ⟨[.list [.str],.str,.str,.int .i64],[(0,.sc (.list [.str])),(3,.sc .str),(4,.sc .str),(5,.sc (.int .i64))],[]⟩ (fun ((lines1,zip,out,i):List Str×Str×Str×Int)=>((lines1.length:Int)-i).toNat+1) 0 ⟨[.str],[(4,.sc .str)],[]⟩ (.seq (.seq (.reg [.bool] [(17,.sc .bool)]) .u) .u)))) .u)))) Zam.S d=Zam.S.F d:=fun _=>by kernel_rfl
theorem Zam.sound:Zah Tryz.prog C0 10 Zam.S:=sE Za4 Zam.ev (Zai ⟨ZcS.sound,Zds.sound,trivial⟩) Tryz.func10
def Zgq.S:ZaI:=⟨0,[.sc (.list [.int .u8])],[],[.list [.int .u8]],⟨[.list [.int .u8],.int .i64],.ptr 0 0,[.box [.sc (.list [.int .u8]),.sc (.int .i64)]]⟩,
 fun (code_:List Int)=>Zgq code_⟩
theorem Zgq.ev:∀d,Za2 C0 (hnd (tab [])) Tryz.f14 .u Zgq.S d=Zgq.S.F d:=fun _=>by kernel_rfl
theorem Zgq.sound:Zah Tryz.prog C0 14 Zgq.S:=sE Za4 Zgq.ev (Zai trivial) Tryz.func14
def pick.S:ZaI:=⟨1,[.ptr 0 0,.sc (.int .i64)],[.box [.sc (.list [.int .u8]),.sc (.int .i64)]],[.int .i64,.list [.int .u8],.int .i64],⟨[.int .i64,.list [.int .u8],.int .i64],.sc (.int .i64),[.box [.sc (.list [.int .u8]),.sc (.int .i64)]]⟩,
 fun ((n,b,p):Int×List Int×Int)=>pick n b p⟩
theorem pick.ev:∀d,Za2 C0 (hnd (tab [])) Tryz.f15 (.seq .u (.seq .u (.seq (.seq (.reg [.bool] [(24,.sc .bool)]) .u) .u))) pick.S d=pick.S.F d:=fun _=>by kernel_rfl
theorem pick.sound:Zah Tryz.prog C0 15 pick.S:=sE Za4 pick.ev (Zai trivial) Tryz.func15
def Ztc.S:ZaI:=⟨1,[.ptr 0 0,.sc (.list [.str])],[.box [.sc (.list [.int .u8]),.sc (.int .i64)]],[.list [.str],.list [.int .u8],.int .i64],⟨[.str,.list [.int .u8],.int .i64],.sc .str,[.box [.sc (.list [.int .u8]),.sc (.int .i64)]]⟩,
 fun ((xs,b,p):List Str×List Int×Int)=>Ztc xs b p⟩
theorem Ztc.ev:∀d,Za2 C0 (hnd (tab [(15,pick.S)])) Tryz.f16 .u Ztc.S d=Ztc.S.F d:=fun _=>by kernel_rfl
theorem Ztc.sound:Zah Tryz.prog C0 16 Ztc.S:=sE Za4 Ztc.ev (Zai ⟨pick.sound,trivial⟩) Tryz.func16
def Zbg.S:ZaI:=⟨0,[.sc (.list [.str]),.sc (.int .i64)],[],[.list [.str],.int .i64],⟨[.int .i64],.sc (.int .i64),[]⟩,
 fun ((xs,n):List Str×Int)=>Zbg xs n⟩
theorem Zbg.ev:∀d,Za2 C0 (hnd (tab [])) Tryz.f11 (.seq .u (.seq .u (.seq .u (.seq (.seq .u (.blk (.loopS ⟨[.list [.str],.int .i64,.int .i64],[(0,.sc (.list [.str])),(1,.sc (.int .i64)),(5,.sc (.int .i64))],[]⟩ (fun ((a,left,i):List Str×Int×Int)=>((a.length:Int)-i).toNat+1) 0 ⟨[.int .i64],[(1,.sc (.int .i64))],[]⟩ .u))) .u)))) Zbg.S d=Zbg.S.F d:=fun _=>by kernel_rfl
theorem Zbg.sound:Zah Tryz.prog C0 11 Zbg.S:=sE Za4 Zbg.ev (Zai trivial) Tryz.func11
def Za9.S:ZaI:=⟨0,[.sc (.list [.str])],[],[.list [.str]],⟨[.list [.str]],.full 0,[.arr [.str]]⟩,
 fun (xs:List Str)=>Za9 xs⟩
theorem Za9.ev:∀d,Za2 C0 (hnd (tab [])) Tryz.f12 (.seq .u (.seq .u (.seq (.seq .u (.blk (.loop ⟨[.list [.str],.int .i64,.list [.str]],[(0,.sc (.list [.str])),(3,.full 0),(4,.sc (.int .i64))],[.arr [.str]]⟩ (fun ((a,i,out):List Str×Int×List Str)=>((a.length:Int)-i).toNat+1) 0 ⟨[.list [.str]],[(3,.full 0)],[.arr [.str]]⟩ .u))) .u))) Za9.S d=Za9.S.F d:=fun _=>by kernel_rfl
theorem Za9.sound:Zah Tryz.prog C0 12 Za9.S:=sE Za4 Za9.ev (Zai trivial) Tryz.func12
def Zbk.S:ZaI:=⟨0,[.sc (.list [.str]),.sc (.list [.str])],[],[.list [.str],.list [.str]],⟨[.bool],.sc .bool,[]⟩,
 fun ((xs,ys):List Str×List Str)=>Zbk xs ys⟩
theorem Zbk.ev:∀d,Za2 C0 (hnd (tab [])) Tryz.f13 (.seq .u (.seq .u (.seq (.seq .u (.blk (.loopS ⟨[.list [.str],.list [.str],.int .i64],[(0,.sc (.list [.str])),(1,.sc (.list [.str])),(5,.sc (.int .i64))],[]⟩ (fun ((a,b,i):List Str×List Str×Int)=>((a.length:Int)-i).toNat+1) 0 ⟨[],[],[]⟩ .u))) .u))) Zbk.S d=Zbk.S.F d:=fun _=>by kernel_rfl
theorem Zbk.sound:Zah Tryz.prog C0 13 Zbk.S:=sE Za4 Zbk.ev (Zai trivial) Tryz.func13
def Zar.S:ZaI:=⟨0,[.sc (.list [.int .u8])],[],[.list [.int .u8]],⟨[.list [.str]],.full 0,[.arr [.str]]⟩,
 fun (code_:List Int)=>Zar code_⟩
theorem Zar.ev:∀d,Za2 C0 (hnd (tab [(14,Zgq.S),(15,pick.S),(16,Ztc.S)])) Tryz.f8 (.seq .u (.seq .u (.seq .u (.seq (.seq .u (.blk (.loop ⟨[.int .i64,.list [.int .u8],.int .i64,.list [.str]],[(3,.ptr 0 0),(4,.full 1),(5,.sc (.int .i64))],[.box [.sc (.list [.int .u8]),.sc (.int .i64)],.arr [.str]]⟩ (fun ((n,o,o1,out):Int×List Int×Int×List Str)=>(n-0).toNat+1) 0 ⟨[.list [.int .u8],.int .i64,.list [.str]],[(3,.ptr 0 0),(4,.full 1)],[.box [.sc (.list [.int .u8]),.sc (.int .i64)],.arr [.str]]⟩ .u))) (.seq (.seq .u (.cond (.blk (.loop ⟨[.list [.int .u8],.int .i64,.list [.str]],[(3,.ptr 0 0),(4,.full 1)],[.box [.sc (.list [.int .u8]),.sc (.int .i64)],.arr [.str]]⟩ (fun ((o4,o5,out2):List Int×Int×List Str)=>100000) 2 ⟨[.list [.str]],[(4,.full 0)],[.arr [.str]]⟩ .u)) .u)) .u))))) Zar.S d=Zar.S.F d:=fun _=>by kernel_rfl
theorem Zar.sound:Zah Tryz.prog C0 8 Zar.S:=sE Za4 Zar.ev (Zai ⟨Zgq.sound,pick.sound,Ztc.sound,trivial⟩) Tryz.func8
def FnSessionLong.S:ZaI:=⟨0,[.sc (.list [.int .u8])],[],[.list [.int .u8]],⟨[.bool],.sc .bool,[]⟩,
 fun (code_:List Int)=>FnSessionLong code_⟩
theorem FnSessionLong.ev:∀d,Za2 C0 (hnd (tab [(8,Zar.S),(9,ZbK.S),(10,Zam.S)])) Tryz.f3 (.seq .u (.seq .u (.seq .u (.seq .u (.seq (.seq (.reg [.bool] [(23,.sc .bool)]) .u) (.seq .u (.seq .u (.seq .u (.seq (.reg [.bool] [(2,.sc .bool)]) .u))))))))) FnSessionLong.S d=FnSessionLong.S.F d:=fun _=>by kernel_rfl
def FnSessionZip.S:ZaI:=⟨0,[.sc (.list [.int .u8])],[],[.list [.int .u8]],⟨[.bool],.sc .bool,[]⟩,
 fun (code_:List Int)=>FnSessionZip code_⟩
theorem FnSessionZip.ev:∀d,Za2 C0 (hnd (tab [(8,Zar.S),(9,ZbK.S),(10,Zam.S)])) Tryz.f5 (.seq .u (.seq .u (.seq .u (.seq .u (.seq (.seq (.reg [.bool] [(22,.sc .bool)]) .u) (.seq .u (.seq .u (.seq (.reg [.bool] [(2,.sc .bool)]) .u)))))))) FnSessionZip.S d=FnSessionZip.S.F d:=fun _=>by kernel_rfl
def FnSessionLook.S:ZaI:=⟨0,[.sc (.list [.int .u8]),.sc (.list [.int .u8])],[],[.list [.int .u8],.list [.int .u8]],⟨[.bool],.sc .bool,[]⟩,
 fun ((code_,more):List Int×List Int)=>FnSessionLook code_ more⟩
theorem FnSessionLook.ev:∀d,Za2 C0 (hnd (tab [(8,Zar.S),(9,ZbK.S),(10,Zam.S)])) Tryz.f4 (.seq .u (.seq (.seq (.reg [.bool] [(17,.sc .bool)]) .u) (.seq .u (.seq .u (.seq (.seq (.reg [.bool] [(30,.sc .bool)]) .u) .u))))) FnSessionLook.S d=FnSessionLook.S.F d:=fun _=>by kernel_rfl
def FnSession.S:ZaI:=⟨0,[.sc (.list [.int .u8]),.sc (.list [.int .u8])],[],[.list [.int .u8],.list [.int .u8]],⟨[.bool],.sc .bool,[]⟩,
 fun ((code_,more):List Int×List Int)=>FnSession code_ more⟩
theorem FnSession.ev:∀d,Za2 C0 (hnd (tab [(8,Zar.S),(9,ZbK.S),(10,Zam.S)])) Tryz.f7 (.seq .u (.seq (.seq (.reg [.bool] [(16,.sc .bool)]) .u) (.seq .u (.seq .u (.seq .u (.seq .u (.seq .u (.seq (.reg [.bool] [(4,.sc .bool)]) .u)))))))) FnSession.S d=FnSession.S.F d:=fun _=>by kernel_rfl
def FnExactSession.S:ZaI:=⟨0,[.sc (.list [.str])],[],[.list [.str]],⟨[.bool],.sc .bool,[]⟩,
 fun (lines:List Str)=>FnExactSession lines⟩
theorem FnExactSession.ev:∀d,Za2 C0 (hnd (tab [(9,ZbK.S),(10,Zam.S),(11,Zbg.S),(12,Za9.S),(13,Zbk.S)])) Tryz.f6 .u FnExactSession.S d=FnExactSession.S.F d:=fun _=>by kernel_rfl
end Ev
end

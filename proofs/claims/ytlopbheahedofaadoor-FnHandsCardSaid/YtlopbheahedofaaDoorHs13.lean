/- Walk of the reference's HandStep: state 0, what is accepted. Conditions: those of each theorem. -/
import Derived.Test.YtlopbheahedofaaDoorHs12
import Derived.Test.YtlopbheahedofaaDoorOwnA
set_option linter.unusedVariables false
namespace Go.Proofs.YtlopbheahedofaaDoor.Fn
open Go Go.RowKit Go.Proofs.YtlopbheahedofaaDoor.Lib Go.Proofs.YtlopbheahedofaaDoor.Plan
attribute [local go_sem] look_tmp look_const look_func look_global lookT_nil lookT_hit lookT_miss

theorem strs_cut {w : World} {S : Nat → Prop} {g cap : Nat} {T : TypeId} {cs : List Value} (l : List ByteArray) (h : Blk w g T cs) (hS : S g) (hc : l.length ≤ cap) (hl : cs.take l.length = l.map Value.string) : Rec.str.sl.rd True w S l [.slice (some ⟨g, 0, none⟩) l.length cap] := by
  refine ⟨_, _, rfl, hc, Or.inr ⟨g, 0, rfl, hS, fun _ _ => False, fun _ _ h => h.elim, fun _ => ⟨fun o => h.free o, ?_⟩, fun j hj => ⟨[.string l[j]], rfl, fun t ht => ?_⟩⟩⟩
  · intros; exact False.elim ‹_›
  · have ht' : t < 1 := ht
    obtain rfl : t = 0 := by omega
    have hx := h.cell j
    have h2 : cs[j]? = (cs.take l.length)[j]? := by rw [List.getElem?_take_of_lt hj]
    rw [h2, hl, List.getElem?_map, List.getElem?_eq_getElem hj] at hx
    rw [show 0 + j * Rec.str.k + 0 = j from by show 0 + j * 1 + 0 = j; omega]
    exact hx
set_option maxRecDepth 100000 in
set_option maxHeartbeats 8000000 in
theorem sStep0g (name cookie : ByteArray) (flags mine : Int) (calls peer : ByteArray) (both : Int) (data : ByteArray) (w : World) (hn : name.size ≤ 1048576) (hc : cookie.size ≤ 100) (hf0 : 0 ≤ flags) (hf1 : flags ≤ 65535) (hm0 : 0 ≤ mine) (hm1 : mine ≤ 4294967295) (hca : calls.size ≤ 1048576) (hpe : peer.size ≤ 1048576) (hd : data.size ≤ 1048576) (hb : handB 0 name cookie flags mine calls peer both = true) (h0 : 0 < data.size) (hcb : ((data[0].toNat : Int) == 78) = true) (h3 : 3 < data.size) (s : ByteArray) (hs : s = data.extract 3 data.size) (hnm : nameB s = true) (e1 : ((data.extract 3 data.size).toList == name.toList) = false) (e2 : ((data.extract 3 data.size).toList == calls.toList) = true) (e3 : Op.bytesLess name.toList (data.extract 3 data.size).toList = true) (fv : Int) (t0 t1 tx : ByteArray) (hfv : fv = numB (data.extract 1 3)) (ht0 : t0 = ⟨#[67]⟩ ++ bes 2 flags) (ht1 : t1 = t0 ++ bes 4 mine) (htx : tx = t1 ++ name) :
    Calls Tryd.prog 13 #[.agg #[.int .i64 0, .string name, .string cookie, .int .i64 flags, .int .i64 mine, .string calls, .string peer, .int .i64 both], .string data] w (StepOK w (hearsR 0 name cookie flags mine calls peer both data) 0) := by
  have E : Aside (hearsR 0 name cookie flags mine calls peer both data = ((3, name, cookie, flags, mine, calls, s, bits .and .i64 flags fv), [⟨#[115, 111, 107, 95, 115, 105, 109, 117, 108, 116, 97, 110, 101, 111, 117, 115]⟩, tx])) := ⟨by rw [sStep0_eq, hello, head_at 78 h0, show (((78 : UInt8).toNat : Nat) : Int) = 78 from rfl, hcb, decide_eq_true h3, ← hs, hnm, show eqS s name = false by rw [hs]; exact e1, show eqS s calls = true by rw [hs]; exact e2, show gtS name s = false by unfold gtS; rw [hs, e3]; rfl, ← hfv, ← ht0, ← ht1, ← htx]; rfl⟩
  generalize hearsR 0 name cookie flags mine calls peer both data = r at E ⊢
  have h0i : (0 : Int) < data.size := by omega
  have h3i : (3 : Int) < data.size := by omega
  have h3j : (3 : Int) ≤ data.size := by omega
  have HS := Aside.mk hs
  have HNM := Aside.mk hnm
  have HFV := Aside.mk hfv
  have bz := bes_size 2 flags
  have by4 := bes_size 4 mine
  have t0s : t0.size = 3 := by rw [ht0, ByteArray.size_append, bz]; rfl
  have t1s : t1.size = 7 := by rw [ht1, ByteArray.size_append, t0s, by4]
  have ad0 : ∀ wx, (Op.stringOp .add ⟨#[67]⟩ (bes 2 flags)).run Tryd.prog wx = .ok (.string t0) wx := fun wx => by rw [ht0]; exact run_string_add_sum (w := wx) _ _ (by rw [bz]; decide)
  have ad1 : ∀ wx, (Op.stringOp .add t0 (bes 4 mine)).run Tryd.prog wx = .ok (.string t1) wx := fun wx => by rw [ht1]; exact run_string_add_sum (w := wx) _ _ (by rw [t0s, by4]; decide)
  have ad2 : ∀ wx, (Op.stringOp .add t1 name).run Tryd.prog wx = .ok (.string tx) wx := fun wx => by rw [htx]; exact run_string_add_sum (w := wx) _ _ (by rw [t1s]; omega)
  clear hs hnm hfv ht0 ht1 htx bz by4 t0s t1s
  have HB := Aside.mk hb
  clear hb
  go_enter Tryd.func13, Tryd.ntmps13
  go_wp2_with fail
  obtain ⟨w3, hw3⟩ : ∃ x, x = ((w.alloc (.cells #[.int .i64 0, .string name, .string cookie, .int .i64 flags, .int .i64 mine, .string calls, .string peer, .int .i64 both] 27)).alloc (.cells #[.int .i64 0, .string ⟨#[]⟩, .string ⟨#[]⟩, .int .i64 0, .int .i64 0, .string ⟨#[]⟩, .string ⟨#[]⟩, .int .i64 0] 27)).alloc (.cells #[] 9) := ⟨_, rfl⟩
  rw [← hw3]
  have K2 : Aside (Blk w3 w.heap.size 27 [.int .i64 0, .string name, .string cookie, .int .i64 flags, .int .i64 mine, .string calls, .string peer, .int .i64 both]) := ⟨by rw [hw3]; exact ((Blk.new w 27 [.int .i64 0, .string name, .string cookie, .int .i64 flags, .int .i64 mine, .string calls, .string peer, .int .i64 both]).alloc _).alloc _⟩
  have K4 : Aside (Blk w3 (w.heap.size + 1) 27 [.int .i64 0, .string ⟨#[]⟩, .string ⟨#[]⟩, .int .i64 0, .int .i64 0, .string ⟨#[]⟩, .string ⟨#[]⟩, .int .i64 0]) := ⟨by rw [hw3]; exact (Blk.made (w.alloc _) 27 [.int .i64 0, .string ⟨#[]⟩, .string ⟨#[]⟩, .int .i64 0, .int .i64 0, .string ⟨#[]⟩, .string ⟨#[]⟩, .int .i64 0] (by simp)).alloc _⟩
  have BL : Aside (Below w.heap.size w w3) := ⟨by rw [hw3]; go_grown⟩
  clear hw3
  refine (l13Hand 0 name cookie flags mine calls peer both w3 (by omega) (by omega) (by omega) (by omega)).mono ?_
  rintro e w4 ⟨rfl, hb⟩
  rw [HB.out]
  have K2n := Aside.mk (K2.out.below hb)
  have K4n := Aside.mk (K4.out.below hb)
  have BLn := Aside.mk (below_later BL.out hb)
  clear K2 K4 BL
  have K2 := K2n
  have K4 := K4n
  have BL := BLn
  clear BLn K2n K4n
  clear hb HB
  have u0 := K2.out.cell 0
  have u1 := K2.out.cell 1
  have u2 := K2.out.cell 2
  have u3 := K2.out.cell 3
  have u4 := K2.out.cell 4
  have u5 := K2.out.cell 5
  have u6 := K2.out.cell 6
  have u7 := K2.out.cell 7
  simp only [List.getElem?_cons_zero, List.getElem?_cons_succ] at u0 u1 u2 u3 u4 u5 u6 u7
  have f0 := K2.out.free 0
  have lx : w.heap.size < w4.heap.size := K2.out.lt
  go_wp2_with fail
  refine (l01Name (data.extract 3 data.size) _ (by rw [ByteArray.size_extract]; omega)).mono ?_
  rintro e w' ⟨rfl, rfl⟩
  rw [← HS.out, HNM.out, HS.out]
  go_wp2_with fail
  have lr : w.heap.size + 1 < w4.heap.size := K4.out.lt
  have KSn : Aside (Blk ((w4.alloc (.cells #[.string ⟨#[115, 111, 107]⟩] 9)).alloc (.cells #[.string ⟨#[115, 111, 107, 95, 115, 105, 109, 117, 108, 116, 97, 110, 101, 111, 117, 115]⟩] 9)) (w4.heap.size + 1) 9 [.string ⟨#[115, 111, 107, 95, 115, 105, 109, 117, 108, 116, 97, 110, 101, 111, 117, 115]⟩]) := ⟨by have h := Blk.new (w4.alloc (.cells #[.string ⟨#[115, 111, 107]⟩] 9)) 9 [.string ⟨#[115, 111, 107, 95, 115, 105, 109, 117, 108, 116, 97, 110, 101, 111, 117, 115]⟩]; rw [show (w4.alloc (.cells #[.string ⟨#[115, 111, 107]⟩] 9)).heap.size = w4.heap.size + 1 by simp] at h; exact h⟩
  have K2n : Aside (Blk ((w4.alloc (.cells #[.string ⟨#[115, 111, 107]⟩] 9)).alloc (.cells #[.string ⟨#[115, 111, 107, 95, 115, 105, 109, 117, 108, 116, 97, 110, 101, 111, 117, 115]⟩] 9)) w.heap.size _ _) := ⟨(K2.out.alloc _).alloc _⟩
  have K4n : Aside (Blk ((w4.alloc (.cells #[.string ⟨#[115, 111, 107]⟩] 9)).alloc (.cells #[.string ⟨#[115, 111, 107, 95, 115, 105, 109, 117, 108, 116, 97, 110, 101, 111, 117, 115]⟩] 9)) (w.heap.size + 1) _ _) := ⟨(K4.out.alloc _).alloc _⟩
  have BLn : Aside (Below w.heap.size w ((w4.alloc (.cells #[.string ⟨#[115, 111, 107]⟩] 9)).alloc (.cells #[.string ⟨#[115, 111, 107, 95, 115, 105, 109, 117, 108, 116, 97, 110, 101, 111, 117, 115]⟩] 9))) := ⟨(BL.out.alloc (by omega) _).alloc (by simp; omega) _⟩
  obtain ⟨gz, hgs⟩ : ∃ n, n = (w4.heap.size + 1) := ⟨_, rfl⟩
  rw [← hgs] at KSn ⊢
  have hg2 : w.heap.size + 2 ≤ gz := by omega
  have HG2 := Aside.mk hg2
  clear u0 u1 u2 u3 u4 u5 u6 u7 f0 lx lr hgs hg2 K2 K4 BL e1 e2 e3
  generalize ((w4.alloc (.cells #[.string ⟨#[115, 111, 107]⟩] 9)).alloc (.cells #[.string ⟨#[115, 111, 107, 95, 115, 105, 109, 117, 108, 116, 97, 110, 101, 111, 117, 115]⟩] 9)) = w5 at KSn K2n K4n BLn ⊢
  have K2 := K2n
  have K4 := K4n
  have KS := KSn
  have BL := BLn
  clear K2n K4n KSn BLn
  have u0 := K2.out.cell 0
  have u1 := K2.out.cell 1
  have u2 := K2.out.cell 2
  have u3 := K2.out.cell 3
  have u4 := K2.out.cell 4
  have u5 := K2.out.cell 5
  have u6 := K2.out.cell 6
  have u7 := K2.out.cell 7
  simp only [List.getElem?_cons_zero, List.getElem?_cons_succ] at u0 u1 u2 u3 u4 u5 u6 u7
  obtain ⟨lw, hlw⟩ : ∃ n, n = w.heap.size + 2 := ⟨_, rfl⟩
  have lx : w.heap.size < lw := by omega
  have hl5 : lw ≤ w5.heap.size := by have := K4.out.lt; omega
  have HL5 := Aside.mk hl5
  have HLW := Aside.mk hlw
  clear hl5 hlw
  obtain ⟨i0, hi0, iz0, iz1, iz2⟩ := info_parts infoStr
  have HI0 := Aside.mk hi0
  have IZ0 := Aside.mk iz0
  have IZ1 := Aside.mk iz1
  have IZ2 := Aside.mk iz2
  clear hi0 iz0 iz1 iz2
  refine region_env [(0, true), (1, true), (2, true), (5, true), (6, true), (9, true), (10, true), (3, false), (4, true), (7, false), (8, true), (11, true), (12, false), (13, false), (14, true)] (fun w' => Below lw w5 w') 220 rfl (by kernel_rfl) (by kernel_rfl) (fun _ _ d _ _ h => by cases d <;> exact h) ((Below.refl _ _).drew) (fun ops fr HFR HSZ hl => ?_)
  have hl_0 := ops_start hl
  clear hl
  obtain ⟨H0, hl_1⟩ := ops_next 0 1 rfl hl_0
  clear hl_0
  obtain ⟨H1, hl_2⟩ := ops_next 1 2 rfl hl_1
  clear hl_1
  obtain ⟨H2, hl_3⟩ := ops_next 2 3 rfl hl_2
  clear hl_2
  obtain ⟨H3, hl_4⟩ := ops_next 3 4 rfl hl_3
  clear hl_3
  obtain ⟨H4, hl_5⟩ := ops_next 4 5 rfl hl_4
  clear hl_4
  obtain ⟨H5, hl_6⟩ := ops_next 5 6 rfl hl_5
  clear hl_5
  obtain ⟨H6, hl_7⟩ := ops_next 6 7 rfl hl_6
  clear hl_6
  obtain ⟨H7, hl_8⟩ := ops_next 7 8 rfl hl_7
  clear hl_7
  obtain ⟨H8, hl_9⟩ := ops_next 8 9 rfl hl_8
  clear hl_8
  obtain ⟨H9, hl_10⟩ := ops_next 9 10 rfl hl_9
  clear hl_9
  obtain ⟨H10, hl_11⟩ := ops_next 10 11 rfl hl_10
  clear hl_10
  obtain ⟨H11, hl_12⟩ := ops_next 11 12 rfl hl_11
  clear hl_11
  obtain ⟨H12, hl_13⟩ := ops_next 12 13 rfl hl_12
  clear hl_12
  obtain ⟨H13, hl_14⟩ := ops_next 13 14 rfl hl_13
  clear hl_13
  obtain ⟨H14, hl_15⟩ := ops_next 14 15 rfl hl_14
  clear hl_14
  clear hl_15
  have x_7 : ext fr 7 = _ := congrArg (fun a => Act.eval a (.tmp 7)) HFR.out
  conv at x_7 => rhs; simp only [Act.eval, Array.getD_eq_getD_getElem?, List.getElem?_toArray, List.getElem?_cons_succ, List.getElem?_cons_zero, Option.getD_some]
  have x_2 : ext fr 2 = _ := congrArg (fun a => Act.eval a (.tmp 2)) HFR.out
  conv at x_2 => rhs; simp only [Act.eval, Array.getD_eq_getD_getElem?, List.getElem?_toArray, List.getElem?_cons_succ, List.getElem?_cons_zero, Option.getD_some]
  refine env_yes HSZ H0.out ?_ (fun w' hS => ?_) ?_
  rotate_left
  (go_simp
   rfl)
  refine env_yes HSZ H1.out ?_ (fun w' hS => ?_) ?_
  rotate_left
  (go_simp
   rfl)
  refine env_yes HSZ H2.out ?_ (fun w' hS => ?_) ?_
  rotate_left
  (have h := (hS.cell (p := ⟨w.heap.size, 3, none⟩) lx).trans u3
   go_simp
   rfl)
  refine env_yes HSZ H5.out ?_ (fun w' hS => ?_) ?_
  rotate_left
  (go_simp
   rfl)
  refine env_yes HSZ H6.out ?_ (fun w' hS => ?_) ?_
  rotate_left
  (have h := (hS.cell (p := ⟨w.heap.size, 4, none⟩) lx).trans u4
   go_simp
   rfl)
  refine env_yes HSZ H9.out ?_ (fun w' hS => ?_) ?_
  rotate_left
  (go_simp
   rfl)
  refine env_yes HSZ H10.out ?_ (fun w' hS => ?_) ?_
  rotate_left
  (have h := (hS.cell (p := ⟨w.heap.size, 1, none⟩) lx).trans u1
   go_simp
   rfl)
  refine env_call HSZ H3.out ?_ ?_ ?_ ?_
  rotate_left 2
  (go_simp
   first | rfl | (constructor <;> rfl))
  refine (l01Bytes flags 2 _ hf0 (by omega) (by omega)).mono ?_
  rintro e w6 ⟨rfl, hb⟩
  have HB6 : Aside (Below w5.heap.size w5 w6) := ⟨⟨hb.os, hb.tape, hb.output, hb.size, hb.block⟩⟩
  clear hb
  refine ⟨_, rfl, HB6.out.mono HL5.out, ?_⟩
  refine env_yes HSZ H4.out ?_ (fun w' hS => ?_) ?_
  rotate_left
  (have h := ad0
   go_simp
   rfl)
  refine env_call HSZ H7.out ?_ ?_ ?_ ?_
  rotate_left 2
  (go_simp
   first | rfl | (constructor <;> rfl))
  refine (l01Bytes mine 4 _ hm0 (by omega) (by omega)).mono ?_
  rintro e w7 ⟨rfl, hb⟩
  have HB7 := Aside.mk (HB6.out.trans (hb.mono HB6.out.size))
  clear hb HB6
  have KR7 := KS.out.below HB7.out
  obtain ⟨w8, A8, cap8, hrun, hown, hkeep, hb8, hnew, hs8, hc8⟩ := own_app (P := Tryd.prog) (base := lw) (t := 30) i0 _ Tryd.underlying30 HI0.out IZ0.out IZ1.out IZ2.out rfl (by decide) (show w7.ownsRow lw 9 1 (.slice (some ⟨gz, 0, none⟩) 1 1) 1 [.string ⟨#[115, 111, 107, 95, 115, 105, 109, 117, 108, 116, 97, 110, 101, 111, 117, 115]⟩] from ⟨rfl, .inr ⟨gz, 1, #[.string ⟨#[115, 111, 107, 95, 115, 105, 109, 117, 108, 116, 97, 110, 101, 111, 117, 115]⟩], rfl, by rw [HLW.out]; exact HG2.out, KR7, Nat.le_refl _, by unfold maxLen; omega, rfl, rfl⟩⟩) [.string tx] rfl (fun u hu => by simp at hu; rcases hu with rfl; rfl) (by unfold maxLen; omega) (by omega) (Nat.le_trans HL5.out HB7.out.size)
  have HRUN := Aside.mk hrun
  have HOWN := Aside.mk hown
  have HB8 := Aside.mk ((HB7.out.mono HL5.out).trans hb8)
  clear KR7 hrun hown hkeep hb8 hnew hs8 hc8
  refine ⟨_, rfl, HB7.out.mono HL5.out, ?_⟩
  refine env_yes HSZ H8.out ?_ (fun w' hS => ?_) ?_
  rotate_left
  (have h := ad1
   go_simp
   rfl)
  refine env_yes HSZ H11.out ?_ (fun w' hS => ?_) ?_
  rotate_left
  (have h := ad2
   go_simp
   rfl)
  refine env_run HSZ H12.out ?_ ?_ ?_ ?_ ?_
  rotate_left 2
  (go_simp; constructor <;> rfl)
  exact (HB7.out.mono HL5.out).alloc (Nat.le_trans HL5.out HB7.out.size) _
  refine env_run HSZ H13.out ?_ ?_ ?_ ?_ ?_
  rotate_left 2
  rotate_right 2
  exact (.slice A8 2 cap8)
  exact w8
  exact exec_app (v := .slice (some ⟨gz, 0, none⟩) 1 1) (v2 := .slice (some ⟨w7.heap.size, 0, none⟩) 1 1) _ _ (by go_simp) (by go_simp) HRUN.out
  exact HB8.out
  refine env_yes HSZ H14.out ?_ (fun w' hS => ?_) ?_
  rotate_left
  (go_simp
   rfl)
  refine env_end ?_
  have hfr := HFR.out
  clear HFR HSZ H0 H1 H2 H3 H4 H5 H6 H7 H8 H9 H10 H11 H12 H13 H14 x_7 x_2
  subst hfr
  simp only [putAll, Act.put, List.setIfInBounds_toArray, List.set_cons_succ, List.set_cons_zero]
  have K2n : Aside (Blk w8 w.heap.size _ _) := ⟨(HB8.out.block _ lx).trans K2.out⟩
  have K4n : Aside (Blk w8 (w.heap.size + 1) _ _) := ⟨(HB8.out.block _ (by rw [HLW.out]; omega)).trans K4.out⟩
  have BLn := Aside.mk (BL.out.trans (HB8.out.mono (Nat.le_of_lt lx)))
  clear u0 u1 u2 u3 u4 u5 u6 u7 lx K2 K4 KS BL HB7 HB8 HRUN HI0 IZ0 IZ1 IZ2 ad0 ad1 ad2
  clear HG2 HL5
  rcases HOWN.out.2 with ⟨hz, hz2⟩ | ⟨gs, cap, cur, he, hgb, hblk, hcap, -, hcs, htk⟩
  · cases hz2
  obtain ⟨rfl, -, rfl⟩ : A8 = some ⟨gs, 0, none⟩ ∧ True ∧ cap8 = cap := by injection he with x1 x2 x3; exact ⟨x1, trivial, x3⟩
  have KS : Aside (Blk w8 gs 9 cur.toList) := ⟨by unfold Blk; rw [hblk]⟩
  have gs1 : w.heap.size + 1 < gs := by have := HLW.out; omega
  have HTK := Aside.mk htk
  have HCP := Aside.mk hcap
  clear HOWN he hgb hblk hcap hcs htk HLW
  have K2 := K2n
  have K4 := K4n
  have BL := BLn
  clear K2n K4n BLn
  have u0 := K2.out.cell 0
  have u1 := K2.out.cell 1
  have u2 := K2.out.cell 2
  have u3 := K2.out.cell 3
  have u4 := K2.out.cell 4
  have u5 := K2.out.cell 5
  have u6 := K2.out.cell 6
  have u7 := K2.out.cell 7
  simp only [List.getElem?_cons_zero, List.getElem?_cons_succ] at u0 u1 u2 u3 u4 u5 u6 u7
  have f0 := K2.out.free 0
  have f6 := K2.out.free 6
  have lx : w.heap.size < w8.heap.size := K2.out.lt
  go_wp2_with fail
  rw [← HS.out]
  have K2n : Aside (Blk ((w8.setCell ⟨w.heap.size, 0, none⟩ (.int .i64 3)).setCell ⟨w.heap.size, 6, none⟩ (.string s)) w.heap.size 27 [.int .i64 3, .string name, .string cookie, .int .i64 flags, .int .i64 mine, .string calls, .string s, .int .i64 both]) := ⟨(K2.out.set 0 _).set 6 _⟩
  have K4n : Aside (Blk ((w8.setCell ⟨w.heap.size, 0, none⟩ (.int .i64 3)).setCell ⟨w.heap.size, 6, none⟩ (.string s)) (w.heap.size + 1) 27 [.int .i64 0, .string ⟨#[]⟩, .string ⟨#[]⟩, .int .i64 0, .int .i64 0, .string ⟨#[]⟩, .string ⟨#[]⟩, .int .i64 0]) := ⟨(K4.out.far (show w.heap.size + 1 ≠ w.heap.size by omega) _).far (show w.heap.size + 1 ≠ w.heap.size by omega) _⟩
  have KSn : Aside (Blk ((w8.setCell ⟨w.heap.size, 0, none⟩ (.int .i64 3)).setCell ⟨w.heap.size, 6, none⟩ (.string s)) gs 9 cur.toList) := ⟨(KS.out.far (show gs ≠ w.heap.size by omega) _).far (show gs ≠ w.heap.size by omega) _⟩
  have BLn : Aside (Below w.heap.size w ((w8.setCell ⟨w.heap.size, 0, none⟩ (.int .i64 3)).setCell ⟨w.heap.size, 6, none⟩ (.string s))) := ⟨(BL.out.setCell (Nat.le_refl _) _).setCell (Nat.le_refl _) _⟩
  clear u0 u1 u2 u3 u4 u5 u6 u7 f0 f6 lx K2 K4 KS BL
  generalize ((w8.setCell ⟨w.heap.size, 0, none⟩ (.int .i64 3)).setCell ⟨w.heap.size, 6, none⟩ (.string s)) = w11 at K2n K4n KSn BLn ⊢
  have K2 := K2n
  have K4 := K4n
  have KS := KSn
  have BL := BLn
  clear K2n K4n KSn BLn
  have u0 := K2.out.cell 0
  have u1 := K2.out.cell 1
  have u2 := K2.out.cell 2
  have u3 := K2.out.cell 3
  have u4 := K2.out.cell 4
  have u5 := K2.out.cell 5
  have u6 := K2.out.cell 6
  have u7 := K2.out.cell 7
  simp only [List.getElem?_cons_zero, List.getElem?_cons_succ] at u0 u1 u2 u3 u4 u5 u6 u7
  have f7 := K2.out.free 7
  have lx : w.heap.size < w11.heap.size := K2.out.lt
  refine region_env2 [(0, true), (1, true), (2, true), (3, true), (4, false), (5, true), (6, true), (7, false)] (fun w' => Below w11.heap.size w11 w') (fun _ => True) 7 220 rfl (by kernel_rfl) (by kernel_rfl) (fun _ _ d _ _ h => by cases d <;> exact h) (fun _ _ => trivial) ((Below.refl _ _).drew) (fun ops fr HFR HSZ HWT hl => ?_)
  have hl_0 := ops_start hl
  clear hl
  obtain ⟨H0, hl_1⟩ := ops_next 0 1 rfl hl_0
  clear hl_0
  obtain ⟨H1, hl_2⟩ := ops_next 1 2 rfl hl_1
  clear hl_1
  obtain ⟨H2, hl_3⟩ := ops_next 2 3 rfl hl_2
  clear hl_2
  obtain ⟨H3, hl_4⟩ := ops_next 3 4 rfl hl_3
  clear hl_3
  obtain ⟨H4, hl_5⟩ := ops_next 4 5 rfl hl_4
  clear hl_4
  obtain ⟨H5, hl_6⟩ := ops_next 5 6 rfl hl_5
  clear hl_5
  obtain ⟨H6, hl_7⟩ := ops_next 6 7 rfl hl_6
  clear hl_6
  obtain ⟨H7, hl_8⟩ := ops_next 7 8 rfl hl_7
  clear hl_7
  clear hl_8
  have x_2 : ext fr 2 = _ := congrArg (fun a => Act.eval a (.tmp 2)) HFR.out
  conv at x_2 => rhs; simp only [Act.eval, Array.getD_eq_getD_getElem?, List.getElem?_toArray, List.getElem?_cons_succ, List.getElem?_cons_zero, Option.getD_some]
  have x_1 : ext fr 1 = _ := congrArg (fun a => Act.eval a (.tmp 1)) HFR.out
  conv at x_1 => rhs; simp only [Act.eval, Array.getD_eq_getD_getElem?, List.getElem?_toArray, List.getElem?_cons_succ, List.getElem?_cons_zero, Option.getD_some]
  refine env2_yes HSZ (by decide) H0.out ?_ (fun w' hS => ?_) ?_
  rotate_left
  (go_simp
   rfl)
  refine env2_early HSZ (by decide) HWT (by kernel_rfl) H1.out ?_ (fun w' hS => ?_) ?_
  rotate_left
  (have h := (hS.cell (p := ⟨w.heap.size, 3, none⟩) lx).trans u3
   go_simp
   rfl)
  refine env2_yes HSZ (by decide) H2.out ?_ (fun w' hS => ?_) ?_
  rotate_left
  (go_simp
   rfl)
  refine env2_yes HSZ (by decide) H3.out ?_ (fun w' hS => ?_) ?_
  rotate_left
  (go_simp
   rfl)
  refine env2_call HSZ H4.out ?_ ?_ ?_ ?_
  rotate_left 2
  (go_simp
   first | rfl | (constructor <;> rfl))
  refine (l01Number (data.extract 1 3) _ (by rw [ByteArray.size_extract]; omega)).mono ?_
  rintro e w' ⟨rfl, rfl⟩
  rw [← HFV.out]
  refine ⟨_, rfl, (Below.refl _ _).drew, ?_⟩
  refine env2_yes HSZ (by decide) H5.out ?_ (fun w' hS => ?_) ?_
  rotate_left
  (go_simp
   rfl)
  refine env2_yes HSZ (by decide) H6.out ?_ (fun w' hS => ?_) ?_
  rotate_left
  (go_simp
   rfl)
  refine env2_store HSZ H7.out ?_ ?_ ?_ ?_
  rotate_left 1
  (go_simp; rfl)
  trivial
  refine env2_end ?_
  have hfr := HFR.out
  clear HFR HSZ HWT H0 H1 H2 H3 H4 H5 H6 H7 x_2 x_1
  subst hfr
  simp only [putAll, Act.put, List.setIfInBounds_toArray, List.set_cons_succ, List.set_cons_zero]
  have K2s : Aside (Blk (w11.drew.setCell ⟨w.heap.size, 7, none⟩ (.int .i64 (bits .and .i64 flags fv))) w.heap.size 27 [.int .i64 3, .string name, .string cookie, .int .i64 flags, .int .i64 mine, .string calls, .string s, .int .i64 (bits .and .i64 flags fv)]) := ⟨(show Blk w11.drew _ _ _ from K2.out).set 7 _⟩
  have K4s : Aside (Blk (w11.drew.setCell ⟨w.heap.size, 7, none⟩ (.int .i64 (bits .and .i64 flags fv))) (w.heap.size + 1) 27 [.int .i64 0, .string ⟨#[]⟩, .string ⟨#[]⟩, .int .i64 0, .int .i64 0, .string ⟨#[]⟩, .string ⟨#[]⟩, .int .i64 0]) := ⟨(show Blk w11.drew _ _ _ from K4.out).far (show w.heap.size + 1 ≠ w.heap.size by omega) _⟩
  have KSs : Aside (Blk (w11.drew.setCell ⟨w.heap.size, 7, none⟩ (.int .i64 (bits .and .i64 flags fv))) gs 9 cur.toList) := ⟨(show Blk w11.drew _ _ _ from KS.out).far (show gs ≠ w.heap.size by omega) _⟩
  have BLs : Aside (Below w.heap.size w (w11.drew.setCell ⟨w.heap.size, 7, none⟩ (.int .i64 (bits .and .i64 flags fv)))) := ⟨BL.out.drew.setCell (Nat.le_refl _) _⟩
  have v0 := K2s.out.cell 0
  have v1 := K2s.out.cell 1
  have v2 := K2s.out.cell 2
  have v3 := K2s.out.cell 3
  have v4 := K2s.out.cell 4
  have v5 := K2s.out.cell 5
  have v6 := K2s.out.cell 6
  have v7 := K2s.out.cell 7
  simp only [List.getElem?_cons_zero, List.getElem?_cons_succ] at v0 v1 v2 v3 v4 v5 v6 v7
  go_wp2_with (refine wpList_store_blk rfl 27 _ _ rfl (w.heap.size + 1) [.int .i64 3, .string name, .string cookie, .int .i64 flags, .int .i64 mine, .string calls, .string s, .int .i64 (bits .and .i64 flags fv)] rfl rfl 27 [.int .i64 0, .string ⟨#[]⟩, .string ⟨#[]⟩, .int .i64 0, .int .i64 0, .string ⟨#[]⟩, .string ⟨#[]⟩, .int .i64 0] (K4s.out) (by kernel_rfl) rfl rfl ?_; intro w9 k9 hg9; have K9 := Aside.mk k9; have B9 := Aside.mk (below_grown (BLs.out) hg9 (by omega)); have S9 := Aside.mk ((KSs.out).grown hg9 (by intro e; injection e with e; omega)); clear k9 hg9)
  refine bodyPost_ret (res_ctt rfl _ _ (w.heap.size + 1) 27 [.int .i64 3, .string name, .string cookie, .int .i64 flags, .int .i64 mine, .string calls, .string s, .int .i64 (bits .and .i64 flags fv)] _ rfl K9.out Tryd.underlying27 rfl (by kernel_rfl)) rfl ⟨_, by rw [E.out]; rfl, by rw [E.out]; exact strs_cut [⟨#[115, 111, 107, 95, 115, 105, 109, 117, 108, 116, 97, 110, 101, 111, 117, 115]⟩, tx] S9.out ⟨by omega, S9.out.lt⟩ HCP.out HTK.out, B9.out⟩
set_option maxRecDepth 100000 in
set_option maxHeartbeats 8000000 in
theorem sStep0h (name cookie : ByteArray) (flags mine : Int) (calls peer : ByteArray) (both : Int) (data : ByteArray) (w : World) (hn : name.size ≤ 1048576) (hc : cookie.size ≤ 100) (hf0 : 0 ≤ flags) (hf1 : flags ≤ 65535) (hm0 : 0 ≤ mine) (hm1 : mine ≤ 4294967295) (hca : calls.size ≤ 1048576) (hpe : peer.size ≤ 1048576) (hd : data.size ≤ 1048576) (hb : handB 0 name cookie flags mine calls peer both = true) (h0 : 0 < data.size) (hcb : ((data[0].toNat : Int) == 78) = true) (h3 : 3 < data.size) (s : ByteArray) (hs : s = data.extract 3 data.size) (hnm : nameB s = true) (e1 : ((data.extract 3 data.size).toList == name.toList) = false) (e2 : ((data.extract 3 data.size).toList == calls.toList) = false) (fv : Int) (t0 t1 tx : ByteArray) (hfv : fv = numB (data.extract 1 3)) (ht0 : t0 = ⟨#[67]⟩ ++ bes 2 flags) (ht1 : t1 = t0 ++ bes 4 mine) (htx : tx = t1 ++ name) :
    Calls Tryd.prog 13 #[.agg #[.int .i64 0, .string name, .string cookie, .int .i64 flags, .int .i64 mine, .string calls, .string peer, .int .i64 both], .string data] w (StepOK w (hearsR 0 name cookie flags mine calls peer both data) 0) := by
  have E : Aside (hearsR 0 name cookie flags mine calls peer both data = ((3, name, cookie, flags, mine, calls, s, bits .and .i64 flags fv), [⟨#[115, 111, 107]⟩, tx])) := ⟨by rw [sStep0_eq, hello, head_at 78 h0, show (((78 : UInt8).toNat : Nat) : Int) = 78 from rfl, hcb, decide_eq_true h3, ← hs, hnm, show eqS s name = false by rw [hs]; exact e1, show eqS s calls = false by rw [hs]; exact e2, ← hfv, ← ht0, ← ht1, ← htx]; rfl⟩
  generalize hearsR 0 name cookie flags mine calls peer both data = r at E ⊢
  have h0i : (0 : Int) < data.size := by omega
  have h3i : (3 : Int) < data.size := by omega
  have h3j : (3 : Int) ≤ data.size := by omega
  have HS := Aside.mk hs
  have HNM := Aside.mk hnm
  have HFV := Aside.mk hfv
  have bz := bes_size 2 flags
  have by4 := bes_size 4 mine
  have t0s : t0.size = 3 := by rw [ht0, ByteArray.size_append, bz]; rfl
  have t1s : t1.size = 7 := by rw [ht1, ByteArray.size_append, t0s, by4]
  have ad0 : ∀ wx, (Op.stringOp .add ⟨#[67]⟩ (bes 2 flags)).run Tryd.prog wx = .ok (.string t0) wx := fun wx => by rw [ht0]; exact run_string_add_sum (w := wx) _ _ (by rw [bz]; decide)
  have ad1 : ∀ wx, (Op.stringOp .add t0 (bes 4 mine)).run Tryd.prog wx = .ok (.string t1) wx := fun wx => by rw [ht1]; exact run_string_add_sum (w := wx) _ _ (by rw [t0s, by4]; decide)
  have ad2 : ∀ wx, (Op.stringOp .add t1 name).run Tryd.prog wx = .ok (.string tx) wx := fun wx => by rw [htx]; exact run_string_add_sum (w := wx) _ _ (by rw [t1s]; omega)
  clear hs hnm hfv ht0 ht1 htx bz by4 t0s t1s
  have HB := Aside.mk hb
  clear hb
  go_enter Tryd.func13, Tryd.ntmps13
  go_wp2_with fail
  obtain ⟨w3, hw3⟩ : ∃ x, x = ((w.alloc (.cells #[.int .i64 0, .string name, .string cookie, .int .i64 flags, .int .i64 mine, .string calls, .string peer, .int .i64 both] 27)).alloc (.cells #[.int .i64 0, .string ⟨#[]⟩, .string ⟨#[]⟩, .int .i64 0, .int .i64 0, .string ⟨#[]⟩, .string ⟨#[]⟩, .int .i64 0] 27)).alloc (.cells #[] 9) := ⟨_, rfl⟩
  rw [← hw3]
  have K2 : Aside (Blk w3 w.heap.size 27 [.int .i64 0, .string name, .string cookie, .int .i64 flags, .int .i64 mine, .string calls, .string peer, .int .i64 both]) := ⟨by rw [hw3]; exact ((Blk.new w 27 [.int .i64 0, .string name, .string cookie, .int .i64 flags, .int .i64 mine, .string calls, .string peer, .int .i64 both]).alloc _).alloc _⟩
  have K4 : Aside (Blk w3 (w.heap.size + 1) 27 [.int .i64 0, .string ⟨#[]⟩, .string ⟨#[]⟩, .int .i64 0, .int .i64 0, .string ⟨#[]⟩, .string ⟨#[]⟩, .int .i64 0]) := ⟨by rw [hw3]; exact (Blk.made (w.alloc _) 27 [.int .i64 0, .string ⟨#[]⟩, .string ⟨#[]⟩, .int .i64 0, .int .i64 0, .string ⟨#[]⟩, .string ⟨#[]⟩, .int .i64 0] (by simp)).alloc _⟩
  have BL : Aside (Below w.heap.size w w3) := ⟨by rw [hw3]; go_grown⟩
  clear hw3
  refine (l13Hand 0 name cookie flags mine calls peer both w3 (by omega) (by omega) (by omega) (by omega)).mono ?_
  rintro e w4 ⟨rfl, hb⟩
  rw [HB.out]
  have K2n := Aside.mk (K2.out.below hb)
  have K4n := Aside.mk (K4.out.below hb)
  have BLn := Aside.mk (below_later BL.out hb)
  clear K2 K4 BL
  have K2 := K2n
  have K4 := K4n
  have BL := BLn
  clear BLn K2n K4n
  clear hb HB
  have u0 := K2.out.cell 0
  have u1 := K2.out.cell 1
  have u2 := K2.out.cell 2
  have u3 := K2.out.cell 3
  have u4 := K2.out.cell 4
  have u5 := K2.out.cell 5
  have u6 := K2.out.cell 6
  have u7 := K2.out.cell 7
  simp only [List.getElem?_cons_zero, List.getElem?_cons_succ] at u0 u1 u2 u3 u4 u5 u6 u7
  have f0 := K2.out.free 0
  have lx : w.heap.size < w4.heap.size := K2.out.lt
  go_wp2_with fail
  refine (l01Name (data.extract 3 data.size) _ (by rw [ByteArray.size_extract]; omega)).mono ?_
  rintro e w' ⟨rfl, rfl⟩
  rw [← HS.out, HNM.out, HS.out]
  go_wp2_with fail
  have lr : w.heap.size + 1 < w4.heap.size := K4.out.lt
  have KSn : Aside (Blk (w4.alloc (.cells #[.string ⟨#[115, 111, 107]⟩] 9)) w4.heap.size 9 [.string ⟨#[115, 111, 107]⟩]) := ⟨by have h := Blk.new w4 9 [.string ⟨#[115, 111, 107]⟩]; exact h⟩
  have K2n : Aside (Blk (w4.alloc (.cells #[.string ⟨#[115, 111, 107]⟩] 9)) w.heap.size _ _) := ⟨K2.out.alloc _⟩
  have K4n : Aside (Blk (w4.alloc (.cells #[.string ⟨#[115, 111, 107]⟩] 9)) (w.heap.size + 1) _ _) := ⟨K4.out.alloc _⟩
  have BLn : Aside (Below w.heap.size w (w4.alloc (.cells #[.string ⟨#[115, 111, 107]⟩] 9))) := ⟨BL.out.alloc (by omega) _⟩
  obtain ⟨gz, hgs⟩ : ∃ n, n = w4.heap.size := ⟨_, rfl⟩
  rw [← hgs] at KSn ⊢
  have hg2 : w.heap.size + 2 ≤ gz := by omega
  have HG2 := Aside.mk hg2
  clear u0 u1 u2 u3 u4 u5 u6 u7 f0 lx lr hgs hg2 K2 K4 BL e1 e2
  generalize (w4.alloc (.cells #[.string ⟨#[115, 111, 107]⟩] 9)) = w5 at KSn K2n K4n BLn ⊢
  have K2 := K2n
  have K4 := K4n
  have KS := KSn
  have BL := BLn
  clear K2n K4n KSn BLn
  have u0 := K2.out.cell 0
  have u1 := K2.out.cell 1
  have u2 := K2.out.cell 2
  have u3 := K2.out.cell 3
  have u4 := K2.out.cell 4
  have u5 := K2.out.cell 5
  have u6 := K2.out.cell 6
  have u7 := K2.out.cell 7
  simp only [List.getElem?_cons_zero, List.getElem?_cons_succ] at u0 u1 u2 u3 u4 u5 u6 u7
  obtain ⟨lw, hlw⟩ : ∃ n, n = w.heap.size + 2 := ⟨_, rfl⟩
  have lx : w.heap.size < lw := by omega
  have hl5 : lw ≤ w5.heap.size := by have := K4.out.lt; omega
  have HL5 := Aside.mk hl5
  have HLW := Aside.mk hlw
  clear hl5 hlw
  obtain ⟨i0, hi0, iz0, iz1, iz2⟩ := info_parts infoStr
  have HI0 := Aside.mk hi0
  have IZ0 := Aside.mk iz0
  have IZ1 := Aside.mk iz1
  have IZ2 := Aside.mk iz2
  clear hi0 iz0 iz1 iz2
  refine region_env [(0, true), (1, true), (2, true), (5, true), (6, true), (9, true), (10, true), (3, false), (4, true), (7, false), (8, true), (11, true), (12, false), (13, false), (14, true)] (fun w' => Below lw w5 w') 220 rfl (by kernel_rfl) (by kernel_rfl) (fun _ _ d _ _ h => by cases d <;> exact h) ((Below.refl _ _).drew) (fun ops fr HFR HSZ hl => ?_)
  have hl_0 := ops_start hl
  clear hl
  obtain ⟨H0, hl_1⟩ := ops_next 0 1 rfl hl_0
  clear hl_0
  obtain ⟨H1, hl_2⟩ := ops_next 1 2 rfl hl_1
  clear hl_1
  obtain ⟨H2, hl_3⟩ := ops_next 2 3 rfl hl_2
  clear hl_2
  obtain ⟨H3, hl_4⟩ := ops_next 3 4 rfl hl_3
  clear hl_3
  obtain ⟨H4, hl_5⟩ := ops_next 4 5 rfl hl_4
  clear hl_4
  obtain ⟨H5, hl_6⟩ := ops_next 5 6 rfl hl_5
  clear hl_5
  obtain ⟨H6, hl_7⟩ := ops_next 6 7 rfl hl_6
  clear hl_6
  obtain ⟨H7, hl_8⟩ := ops_next 7 8 rfl hl_7
  clear hl_7
  obtain ⟨H8, hl_9⟩ := ops_next 8 9 rfl hl_8
  clear hl_8
  obtain ⟨H9, hl_10⟩ := ops_next 9 10 rfl hl_9
  clear hl_9
  obtain ⟨H10, hl_11⟩ := ops_next 10 11 rfl hl_10
  clear hl_10
  obtain ⟨H11, hl_12⟩ := ops_next 11 12 rfl hl_11
  clear hl_11
  obtain ⟨H12, hl_13⟩ := ops_next 12 13 rfl hl_12
  clear hl_12
  obtain ⟨H13, hl_14⟩ := ops_next 13 14 rfl hl_13
  clear hl_13
  obtain ⟨H14, hl_15⟩ := ops_next 14 15 rfl hl_14
  clear hl_14
  clear hl_15
  have x_7 : ext fr 7 = _ := congrArg (fun a => Act.eval a (.tmp 7)) HFR.out
  conv at x_7 => rhs; simp only [Act.eval, Array.getD_eq_getD_getElem?, List.getElem?_toArray, List.getElem?_cons_succ, List.getElem?_cons_zero, Option.getD_some]
  have x_2 : ext fr 2 = _ := congrArg (fun a => Act.eval a (.tmp 2)) HFR.out
  conv at x_2 => rhs; simp only [Act.eval, Array.getD_eq_getD_getElem?, List.getElem?_toArray, List.getElem?_cons_succ, List.getElem?_cons_zero, Option.getD_some]
  refine env_yes HSZ H0.out ?_ (fun w' hS => ?_) ?_
  rotate_left
  (go_simp
   rfl)
  refine env_yes HSZ H1.out ?_ (fun w' hS => ?_) ?_
  rotate_left
  (go_simp
   rfl)
  refine env_yes HSZ H2.out ?_ (fun w' hS => ?_) ?_
  rotate_left
  (have h := (hS.cell (p := ⟨w.heap.size, 3, none⟩) lx).trans u3
   go_simp
   rfl)
  refine env_yes HSZ H5.out ?_ (fun w' hS => ?_) ?_
  rotate_left
  (go_simp
   rfl)
  refine env_yes HSZ H6.out ?_ (fun w' hS => ?_) ?_
  rotate_left
  (have h := (hS.cell (p := ⟨w.heap.size, 4, none⟩) lx).trans u4
   go_simp
   rfl)
  refine env_yes HSZ H9.out ?_ (fun w' hS => ?_) ?_
  rotate_left
  (go_simp
   rfl)
  refine env_yes HSZ H10.out ?_ (fun w' hS => ?_) ?_
  rotate_left
  (have h := (hS.cell (p := ⟨w.heap.size, 1, none⟩) lx).trans u1
   go_simp
   rfl)
  refine env_call HSZ H3.out ?_ ?_ ?_ ?_
  rotate_left 2
  (go_simp
   first | rfl | (constructor <;> rfl))
  refine (l01Bytes flags 2 _ hf0 (by omega) (by omega)).mono ?_
  rintro e w6 ⟨rfl, hb⟩
  have HB6 : Aside (Below w5.heap.size w5 w6) := ⟨⟨hb.os, hb.tape, hb.output, hb.size, hb.block⟩⟩
  clear hb
  refine ⟨_, rfl, HB6.out.mono HL5.out, ?_⟩
  refine env_yes HSZ H4.out ?_ (fun w' hS => ?_) ?_
  rotate_left
  (have h := ad0
   go_simp
   rfl)
  refine env_call HSZ H7.out ?_ ?_ ?_ ?_
  rotate_left 2
  (go_simp
   first | rfl | (constructor <;> rfl))
  refine (l01Bytes mine 4 _ hm0 (by omega) (by omega)).mono ?_
  rintro e w7 ⟨rfl, hb⟩
  have HB7 := Aside.mk (HB6.out.trans (hb.mono HB6.out.size))
  clear hb HB6
  have KR7 := KS.out.below HB7.out
  obtain ⟨w8, A8, cap8, hrun, hown, hkeep, hb8, hnew, hs8, hc8⟩ := own_app (P := Tryd.prog) (base := lw) (t := 30) i0 _ Tryd.underlying30 HI0.out IZ0.out IZ1.out IZ2.out rfl (by decide) (show w7.ownsRow lw 9 1 (.slice (some ⟨gz, 0, none⟩) 1 1) 1 [.string ⟨#[115, 111, 107]⟩] from ⟨rfl, .inr ⟨gz, 1, #[.string ⟨#[115, 111, 107]⟩], rfl, by rw [HLW.out]; exact HG2.out, KR7, Nat.le_refl _, by unfold maxLen; omega, rfl, rfl⟩⟩) [.string tx] rfl (fun u hu => by simp at hu; rcases hu with rfl; rfl) (by unfold maxLen; omega) (by omega) (Nat.le_trans HL5.out HB7.out.size)
  have HRUN := Aside.mk hrun
  have HOWN := Aside.mk hown
  have HB8 := Aside.mk ((HB7.out.mono HL5.out).trans hb8)
  clear KR7 hrun hown hkeep hb8 hnew hs8 hc8
  refine ⟨_, rfl, HB7.out.mono HL5.out, ?_⟩
  refine env_yes HSZ H8.out ?_ (fun w' hS => ?_) ?_
  rotate_left
  (have h := ad1
   go_simp
   rfl)
  refine env_yes HSZ H11.out ?_ (fun w' hS => ?_) ?_
  rotate_left
  (have h := ad2
   go_simp
   rfl)
  refine env_run HSZ H12.out ?_ ?_ ?_ ?_ ?_
  rotate_left 2
  (go_simp; constructor <;> rfl)
  exact (HB7.out.mono HL5.out).alloc (Nat.le_trans HL5.out HB7.out.size) _
  refine env_run HSZ H13.out ?_ ?_ ?_ ?_ ?_
  rotate_left 2
  rotate_right 2
  exact (.slice A8 2 cap8)
  exact w8
  exact exec_app (v := .slice (some ⟨gz, 0, none⟩) 1 1) (v2 := .slice (some ⟨w7.heap.size, 0, none⟩) 1 1) _ _ (by go_simp) (by go_simp) HRUN.out
  exact HB8.out
  refine env_yes HSZ H14.out ?_ (fun w' hS => ?_) ?_
  rotate_left
  (go_simp
   rfl)
  refine env_end ?_
  have hfr := HFR.out
  clear HFR HSZ H0 H1 H2 H3 H4 H5 H6 H7 H8 H9 H10 H11 H12 H13 H14 x_7 x_2
  subst hfr
  simp only [putAll, Act.put, List.setIfInBounds_toArray, List.set_cons_succ, List.set_cons_zero]
  have K2n : Aside (Blk w8 w.heap.size _ _) := ⟨(HB8.out.block _ lx).trans K2.out⟩
  have K4n : Aside (Blk w8 (w.heap.size + 1) _ _) := ⟨(HB8.out.block _ (by rw [HLW.out]; omega)).trans K4.out⟩
  have BLn := Aside.mk (BL.out.trans (HB8.out.mono (Nat.le_of_lt lx)))
  clear u0 u1 u2 u3 u4 u5 u6 u7 lx K2 K4 KS BL HB7 HB8 HRUN HI0 IZ0 IZ1 IZ2 ad0 ad1 ad2
  clear HG2 HL5
  rcases HOWN.out.2 with ⟨hz, hz2⟩ | ⟨gs, cap, cur, he, hgb, hblk, hcap, -, hcs, htk⟩
  · cases hz2
  obtain ⟨rfl, -, rfl⟩ : A8 = some ⟨gs, 0, none⟩ ∧ True ∧ cap8 = cap := by injection he with x1 x2 x3; exact ⟨x1, trivial, x3⟩
  have KS : Aside (Blk w8 gs 9 cur.toList) := ⟨by unfold Blk; rw [hblk]⟩
  have gs1 : w.heap.size + 1 < gs := by have := HLW.out; omega
  have HTK := Aside.mk htk
  have HCP := Aside.mk hcap
  clear HOWN he hgb hblk hcap hcs htk HLW
  have K2 := K2n
  have K4 := K4n
  have BL := BLn
  clear K2n K4n BLn
  have u0 := K2.out.cell 0
  have u1 := K2.out.cell 1
  have u2 := K2.out.cell 2
  have u3 := K2.out.cell 3
  have u4 := K2.out.cell 4
  have u5 := K2.out.cell 5
  have u6 := K2.out.cell 6
  have u7 := K2.out.cell 7
  simp only [List.getElem?_cons_zero, List.getElem?_cons_succ] at u0 u1 u2 u3 u4 u5 u6 u7
  have f0 := K2.out.free 0
  have f6 := K2.out.free 6
  have lx : w.heap.size < w8.heap.size := K2.out.lt
  go_wp2_with fail
  rw [← HS.out]
  have K2n : Aside (Blk ((w8.setCell ⟨w.heap.size, 0, none⟩ (.int .i64 3)).setCell ⟨w.heap.size, 6, none⟩ (.string s)) w.heap.size 27 [.int .i64 3, .string name, .string cookie, .int .i64 flags, .int .i64 mine, .string calls, .string s, .int .i64 both]) := ⟨(K2.out.set 0 _).set 6 _⟩
  have K4n : Aside (Blk ((w8.setCell ⟨w.heap.size, 0, none⟩ (.int .i64 3)).setCell ⟨w.heap.size, 6, none⟩ (.string s)) (w.heap.size + 1) 27 [.int .i64 0, .string ⟨#[]⟩, .string ⟨#[]⟩, .int .i64 0, .int .i64 0, .string ⟨#[]⟩, .string ⟨#[]⟩, .int .i64 0]) := ⟨(K4.out.far (show w.heap.size + 1 ≠ w.heap.size by omega) _).far (show w.heap.size + 1 ≠ w.heap.size by omega) _⟩
  have KSn : Aside (Blk ((w8.setCell ⟨w.heap.size, 0, none⟩ (.int .i64 3)).setCell ⟨w.heap.size, 6, none⟩ (.string s)) gs 9 cur.toList) := ⟨(KS.out.far (show gs ≠ w.heap.size by omega) _).far (show gs ≠ w.heap.size by omega) _⟩
  have BLn : Aside (Below w.heap.size w ((w8.setCell ⟨w.heap.size, 0, none⟩ (.int .i64 3)).setCell ⟨w.heap.size, 6, none⟩ (.string s))) := ⟨(BL.out.setCell (Nat.le_refl _) _).setCell (Nat.le_refl _) _⟩
  clear u0 u1 u2 u3 u4 u5 u6 u7 f0 f6 lx K2 K4 KS BL
  generalize ((w8.setCell ⟨w.heap.size, 0, none⟩ (.int .i64 3)).setCell ⟨w.heap.size, 6, none⟩ (.string s)) = w11 at K2n K4n KSn BLn ⊢
  have K2 := K2n
  have K4 := K4n
  have KS := KSn
  have BL := BLn
  clear K2n K4n KSn BLn
  have u0 := K2.out.cell 0
  have u1 := K2.out.cell 1
  have u2 := K2.out.cell 2
  have u3 := K2.out.cell 3
  have u4 := K2.out.cell 4
  have u5 := K2.out.cell 5
  have u6 := K2.out.cell 6
  have u7 := K2.out.cell 7
  simp only [List.getElem?_cons_zero, List.getElem?_cons_succ] at u0 u1 u2 u3 u4 u5 u6 u7
  have f7 := K2.out.free 7
  have lx : w.heap.size < w11.heap.size := K2.out.lt
  refine region_env2 [(0, true), (1, true), (2, true), (3, true), (4, false), (5, true), (6, true), (7, false)] (fun w' => Below w11.heap.size w11 w') (fun _ => True) 7 220 rfl (by kernel_rfl) (by kernel_rfl) (fun _ _ d _ _ h => by cases d <;> exact h) (fun _ _ => trivial) ((Below.refl _ _).drew) (fun ops fr HFR HSZ HWT hl => ?_)
  have hl_0 := ops_start hl
  clear hl
  obtain ⟨H0, hl_1⟩ := ops_next 0 1 rfl hl_0
  clear hl_0
  obtain ⟨H1, hl_2⟩ := ops_next 1 2 rfl hl_1
  clear hl_1
  obtain ⟨H2, hl_3⟩ := ops_next 2 3 rfl hl_2
  clear hl_2
  obtain ⟨H3, hl_4⟩ := ops_next 3 4 rfl hl_3
  clear hl_3
  obtain ⟨H4, hl_5⟩ := ops_next 4 5 rfl hl_4
  clear hl_4
  obtain ⟨H5, hl_6⟩ := ops_next 5 6 rfl hl_5
  clear hl_5
  obtain ⟨H6, hl_7⟩ := ops_next 6 7 rfl hl_6
  clear hl_6
  obtain ⟨H7, hl_8⟩ := ops_next 7 8 rfl hl_7
  clear hl_7
  clear hl_8
  have x_2 : ext fr 2 = _ := congrArg (fun a => Act.eval a (.tmp 2)) HFR.out
  conv at x_2 => rhs; simp only [Act.eval, Array.getD_eq_getD_getElem?, List.getElem?_toArray, List.getElem?_cons_succ, List.getElem?_cons_zero, Option.getD_some]
  have x_1 : ext fr 1 = _ := congrArg (fun a => Act.eval a (.tmp 1)) HFR.out
  conv at x_1 => rhs; simp only [Act.eval, Array.getD_eq_getD_getElem?, List.getElem?_toArray, List.getElem?_cons_succ, List.getElem?_cons_zero, Option.getD_some]
  refine env2_yes HSZ (by decide) H0.out ?_ (fun w' hS => ?_) ?_
  rotate_left
  (go_simp
   rfl)
  refine env2_early HSZ (by decide) HWT (by kernel_rfl) H1.out ?_ (fun w' hS => ?_) ?_
  rotate_left
  (have h := (hS.cell (p := ⟨w.heap.size, 3, none⟩) lx).trans u3
   go_simp
   rfl)
  refine env2_yes HSZ (by decide) H2.out ?_ (fun w' hS => ?_) ?_
  rotate_left
  (go_simp
   rfl)
  refine env2_yes HSZ (by decide) H3.out ?_ (fun w' hS => ?_) ?_
  rotate_left
  (go_simp
   rfl)
  refine env2_call HSZ H4.out ?_ ?_ ?_ ?_
  rotate_left 2
  (go_simp
   first | rfl | (constructor <;> rfl))
  refine (l01Number (data.extract 1 3) _ (by rw [ByteArray.size_extract]; omega)).mono ?_
  rintro e w' ⟨rfl, rfl⟩
  rw [← HFV.out]
  refine ⟨_, rfl, (Below.refl _ _).drew, ?_⟩
  refine env2_yes HSZ (by decide) H5.out ?_ (fun w' hS => ?_) ?_
  rotate_left
  (go_simp
   rfl)
  refine env2_yes HSZ (by decide) H6.out ?_ (fun w' hS => ?_) ?_
  rotate_left
  (go_simp
   rfl)
  refine env2_store HSZ H7.out ?_ ?_ ?_ ?_
  rotate_left 1
  (go_simp; rfl)
  trivial
  refine env2_end ?_
  have hfr := HFR.out
  clear HFR HSZ HWT H0 H1 H2 H3 H4 H5 H6 H7 x_2 x_1
  subst hfr
  simp only [putAll, Act.put, List.setIfInBounds_toArray, List.set_cons_succ, List.set_cons_zero]
  have K2s : Aside (Blk (w11.drew.setCell ⟨w.heap.size, 7, none⟩ (.int .i64 (bits .and .i64 flags fv))) w.heap.size 27 [.int .i64 3, .string name, .string cookie, .int .i64 flags, .int .i64 mine, .string calls, .string s, .int .i64 (bits .and .i64 flags fv)]) := ⟨(show Blk w11.drew _ _ _ from K2.out).set 7 _⟩
  have K4s : Aside (Blk (w11.drew.setCell ⟨w.heap.size, 7, none⟩ (.int .i64 (bits .and .i64 flags fv))) (w.heap.size + 1) 27 [.int .i64 0, .string ⟨#[]⟩, .string ⟨#[]⟩, .int .i64 0, .int .i64 0, .string ⟨#[]⟩, .string ⟨#[]⟩, .int .i64 0]) := ⟨(show Blk w11.drew _ _ _ from K4.out).far (show w.heap.size + 1 ≠ w.heap.size by omega) _⟩
  have KSs : Aside (Blk (w11.drew.setCell ⟨w.heap.size, 7, none⟩ (.int .i64 (bits .and .i64 flags fv))) gs 9 cur.toList) := ⟨(show Blk w11.drew _ _ _ from KS.out).far (show gs ≠ w.heap.size by omega) _⟩
  have BLs : Aside (Below w.heap.size w (w11.drew.setCell ⟨w.heap.size, 7, none⟩ (.int .i64 (bits .and .i64 flags fv)))) := ⟨BL.out.drew.setCell (Nat.le_refl _) _⟩
  have v0 := K2s.out.cell 0
  have v1 := K2s.out.cell 1
  have v2 := K2s.out.cell 2
  have v3 := K2s.out.cell 3
  have v4 := K2s.out.cell 4
  have v5 := K2s.out.cell 5
  have v6 := K2s.out.cell 6
  have v7 := K2s.out.cell 7
  simp only [List.getElem?_cons_zero, List.getElem?_cons_succ] at v0 v1 v2 v3 v4 v5 v6 v7
  go_wp2_with (refine wpList_store_blk rfl 27 _ _ rfl (w.heap.size + 1) [.int .i64 3, .string name, .string cookie, .int .i64 flags, .int .i64 mine, .string calls, .string s, .int .i64 (bits .and .i64 flags fv)] rfl rfl 27 [.int .i64 0, .string ⟨#[]⟩, .string ⟨#[]⟩, .int .i64 0, .int .i64 0, .string ⟨#[]⟩, .string ⟨#[]⟩, .int .i64 0] (K4s.out) (by kernel_rfl) rfl rfl ?_; intro w9 k9 hg9; have K9 := Aside.mk k9; have B9 := Aside.mk (below_grown (BLs.out) hg9 (by omega)); have S9 := Aside.mk ((KSs.out).grown hg9 (by intro e; injection e with e; omega)); clear k9 hg9)
  refine bodyPost_ret (res_ctt rfl _ _ (w.heap.size + 1) 27 [.int .i64 3, .string name, .string cookie, .int .i64 flags, .int .i64 mine, .string calls, .string s, .int .i64 (bits .and .i64 flags fv)] _ rfl K9.out Tryd.underlying27 rfl (by kernel_rfl)) rfl ⟨_, by rw [E.out]; rfl, by rw [E.out]; exact strs_cut [⟨#[115, 111, 107]⟩, tx] S9.out ⟨by omega, S9.out.lt⟩ HCP.out HTK.out, B9.out⟩
end Go.Proofs.YtlopbheahedofaaDoor.Fn

/- The draws' cursor: pick, size. Conditions: those of each theorem. -/
import Derived.Test.YtlopbheahedofaaDraw1
set_option linter.unusedVariables false
namespace Go.Proofs.Ytlopbheahedofaa.Fn
open Go.RowKit Go.Proofs.Ytlopbheahedofaa.Lib Go.Proofs.Ytlopbheahedofaa.Plan

theorem mod_small {r m q : Int} (h0 : 0 ≤ r) (hm : 1 < m) (hq : m - 1 ≤ q) : 0 ≤ r.tmod m ∧ r.tmod m ≤ q := by
  rw [Int.tmod_eq_emod_of_nonneg h0]
  have h1 := Int.emod_nonneg r (show m ≠ 0 by omega)
  have h2 := Int.emod_lt_of_pos r (show 0 < m by omega)
  omega
set_option maxRecDepth 100000 in
set_option maxHeartbeats 2000000 in
theorem curPick (g : Nat) (A : Option Addr) (n c : Nat) (top m q : Int) (w : World) (h : CurOK w g A n c top) (hn : n ≤ 1048576) (ht : top ≤ 1000000000000) (hm : m ≤ 60000) (hq0 : 0 ≤ q) (hq : m - 1 ≤ q) :
    Calls Try.prog 19 #[.pointer (some ⟨g, 0, none⟩), .int .i64 m] w (Drawn g A n c (top + 2) w q) := by
  have HC := Aside.mk h
  clear h
  by_cases c1 : m ≤ 1
  · go_enter Try.func19, Try.ntmps19
    go_wp2_with fail
    go_ret
    exact ⟨0, rfl, Int.le_refl _, hq0, But.refl _ _, HC.out.mono (by omega)⟩
  have c1' : 1 < m := by omega
  have hne : ¬ m = 0 := by omega
  by_cases c2 : m ≤ 256
  · go_enter Try.func19, Try.ntmps19
    go_wp2_with fail
    refine (curByte g A n c top w HC.out hn (by omega)).mono ?_
    rintro e w1 ⟨r, rfl, h0, h1, hb, hc⟩
    have HB := Aside.mk hb
    have HC1 := Aside.mk hc
    have hms := mod_small h0 c1' hq
    have HMS := Aside.mk hms
    clear hb hc hms
    go_wp2_with fail
    go_ret
    have hms := HMS.out
    rw [Int.tmod_eq_emod_of_nonneg h0] at hms
    exact ⟨_, rfl, by first | exact hms.1 | (rw [Int.tmod_eq_emod_of_nonneg h0]; exact hms.1), by first | exact hms.2 | (rw [Int.tmod_eq_emod_of_nonneg h0]; exact hms.2), HB.out, HC1.out.mono (by omega)⟩
  · go_enter Try.func19, Try.ntmps19
    go_wp2_with fail
    refine (curByte g A n c top w HC.out hn (by omega)).mono ?_
    rintro e w1 ⟨r, rfl, h0, h1, hb, hc⟩
    have HB := Aside.mk hb
    have HC1 := Aside.mk hc
    clear hb hc
    go_wp2_with fail
    refine (curByte g A n c (top + 1) w1 HC1.out hn (by omega)).mono ?_
    rintro e w2 ⟨r2, rfl, h2, h3, hb, hc⟩
    have HB2 := Aside.mk (HB.out.trans hb)
    have HC2 := Aside.mk hc
    have hs : 0 ≤ r * 256 + r2 := by omega
    have hms := mod_small hs c1' hq
    have HMS := Aside.mk hms
    clear hb hc hms HB HC1
    go_wp2_with fail
    go_ret
    have hms := HMS.out
    rw [Int.tmod_eq_emod_of_nonneg hs] at hms
    exact ⟨_, rfl, by first | exact hms.1 | (rw [Int.tmod_eq_emod_of_nonneg hs]; exact hms.1), by first | exact hms.2 | (rw [Int.tmod_eq_emod_of_nonneg hs]; exact hms.2), HB2.out, HC2.out.mono (by omega)⟩
set_option maxRecDepth 100000 in
set_option maxHeartbeats 2000000 in
theorem curSize (g : Nat) (A : Option Addr) (n c : Nat) (top most : Int) (w : World) (h : CurOK w g A n c top) (hn : n ≤ 1048576) (ht : top ≤ 1000000000000) (hm : 1 ≤ most) (hm2 : most ≤ 1000) :
    Calls Try.prog 18 #[.pointer (some ⟨g, 0, none⟩), .int .i64 most] w (Drawn g A n c (top + 2) w most) := by
  have HC := Aside.mk h
  obtain ⟨k, seed, hb, -, -, -⟩ := h
  have y0 := hb.cell 0
  simp only [List.getElem?_cons_zero] at y0
  clear hb
  by_cases c1 : most < 1 + ((n / 12 : Nat) : Int)
  · have c1' : most < 1 + (n : Int) / 12 := by omega
    go_enter Try.func18, Try.ntmps18
    go_wp2_with fail
    refine (curPick g A n c top (most + 1) most w HC.out hn ht (by omega) (by omega) (by omega)).mono ?_
    rintro e w1 ⟨r, rfl, h0, h1, hb, hc⟩
    have HB := Aside.mk hb
    have HC1 := Aside.mk hc
    clear hb hc y0
    go_wp2_with fail
    go_ret
    exact ⟨r, rfl, h0, h1, HB.out, HC1.out⟩
  · have c1' : ¬ most < 1 + (n : Int) / 12 := by omega
    go_enter Try.func18, Try.ntmps18
    go_wp2_with fail
    refine (curPick g A n c top (1 + (n : Int) / 12 + 1) most w HC.out hn ht (by omega) (by omega) (by omega)).mono ?_
    rintro e w1 ⟨r, rfl, h0, h1, hb, hc⟩
    have HB := Aside.mk hb
    have HC1 := Aside.mk hc
    clear hb hc y0
    go_wp2_with fail
    go_ret
    exact ⟨r, rfl, h0, h1, HB.out, HC1.out⟩
/-- What lies before a call of the cursor, beside it, may grow first. -/
theorem CurOK.below {w w' : World} {g : Nat} {A : Option Addr} {n c : Nat} {t : Int} (h : CurOK w g A n c t) (hb : Below w.heap.size w w') : CurOK w' g A n c t := by
  obtain ⟨k, s, h1, h2, h3, h4, h5, h6⟩ := h
  refine ⟨k, s, h1.below hb, h2, h3, h4, h5, ?_⟩
  intro j hj
  obtain ⟨b, o, x, e, hne, hlt, hc, x1, x2⟩ := h6 j hj
  exact ⟨b, o, x, e, hne, Nat.lt_of_lt_of_le hlt hb.size, (hb.cell (p := ⟨b, o + j, none⟩) hlt).trans hc, x1, x2⟩
theorem lit_cell {w w1 : World} {g h k : Nat} {T : TypeId} {l : List Value} (hb : But (AtG g) w w1) (hh : h < w.heap.size) (hg : h ≠ g) (hl : Blk w h T l) (hk : k < l.length) :
    w1.cell? ⟨h, k, none⟩ = some l[k] :=
  (Blk.cell (T := T) (cs := l) ((hb.block h hh hg).trans hl) k).trans (List.getElem?_eq_getElem hk)
end Go.Proofs.Ytlopbheahedofaa.Fn

/- Walk of the reference's order of terms. Conditions: those of each theorem. -/
import Derived.Test.YtdldgchkinflmaaTermP
import Derived.Test.YtdldgchkinflmaaGTerm
set_option linter.unusedVariables false
namespace Go.Proofs.Ytdldgchkinflmaa.Fn
open Go.RowKit Go.Proofs.Ytdldgchkinflmaa.Lib Go.Proofs.Ytdldgchkinflmaa.Plan

theorem l01Sign (a b : Int) (w : World) : Calls Try.prog 163 #[.int .i64 a, .int .i64 b] w fun e w' => e = .returned (.int .i64 (sgn a b)) ∧ w = w' := by
  by_cases h : a < b
  · have E := Aside.mk (show sgn a b = -1 from if_pos h)
    go_enter Try.func163, Try.ntmps163
    go_wp2
    go_ret
    exact ⟨ret_int E.out.symm, rfl⟩
  · by_cases h2 : b < a
    · have E := Aside.mk (show sgn a b = 1 by rw [sgn, if_neg h, if_pos h2])
      go_enter Try.func163, Try.ntmps163
      go_wp2
      go_ret
      exact ⟨ret_int E.out.symm, rfl⟩
    · have E := Aside.mk (show sgn a b = 0 by rw [sgn, if_neg h, if_neg h2])
      go_enter Try.func163, Try.ntmps163
      go_wp2
      go_ret
      exact ⟨ret_int E.out.symm, rfl⟩
/-- Every element, or every second. -/
def strd (s : Nat) (l : List T) : List T := if s = 1 then l else evens l
theorem evens_cons {α : Type} (x : α) (l : List α) : evens (x :: l) = x :: evens l.tail := by
  cases l with
  | nil => rfl
  | cons y l => rfl
theorem strd_step {s : Nat} (hs : s = 1 ∨ s = 2) (l : List T) (i : Nat) (h : i < l.length) : strd s (l.drop i) = l[i] :: strd s (l.drop (i + s)) := by
  rcases hs with rfl | rfl
  · simp only [strd, if_true]
    exact List.drop_eq_getElem_cons h
  · simp only [strd, if_neg (show ¬ (2 = 1) by decide)]
    rw [List.drop_eq_getElem_cons h, evens_cons, List.tail_drop]
theorem strd_end {s : Nat} (l : List T) (i : Nat) (h : l.length ≤ i) : strd s (l.drop i) = [] := by
  rw [List.drop_eq_nil_of_le h]
  unfold strd
  split <;> rfl
def eachV (ts us : List T) (i s : Nat) : Int := firstNe T.cmp (strd s (ts.drop i)) (strd s (us.drop i))
theorem eachV_step {ts us : List T} {i s : Nat} (hs : s = 1 ∨ s = 2) (h1 : i < ts.length) (h2 : i < us.length) : eachV ts us i s = if T.cmp ts[i] us[i] = 0 then eachV ts us (i + s) s else T.cmp ts[i] us[i] := by
  unfold eachV
  rw [strd_step hs ts i h1, strd_step hs us i h2, firstNe]
theorem eachV_end {ts us : List T} {i s : Nat} (h : ts.length ≤ i ∨ us.length ≤ i) : eachV ts us i s = 0 := by
  unfold eachV
  rcases h with h | h
  · rw [strd_end ts i h]; simp [firstNe]
  · rw [strd_end us i h]
    cases strd s (ts.drop i) <;> simp [firstNe]
/-- What a comparing function's call answers. -/
def Cmps (f : Nat) (x u : T) : Prop := ∀ (cx cu : List Value) (w : World), Rec.term.rd False w (Old w) x cx → Rec.term.rd False w (Old w) u cu → Rec.term.wt x ≤ 1048576 → Rec.term.wt u ≤ 1048576 →
  Calls Try.prog f #[.agg cx.toArray, .agg cu.toArray] w fun e w' => e = .returned (.int .i64 (T.cmp x u)) ∧ Below w.heap.size w w'
theorem wt_kid {ts : List T} {n : Nat} (h : Rec.term.sl.wt ts ≤ n) (j : Nat) (hj : j < ts.length) : Rec.term.wt ts[j] ≤ n :=
  Nat.le_trans (wt_le Rec.term ts j hj) (Nat.le_trans (Nat.le_add_left _ _) h)
theorem wt_len {ts : List T} {n : Nat} (h : Rec.term.sl.wt ts ≤ n) : ts.length ≤ n := Nat.le_trans (Nat.le_add_right _ _) h
set_option maxRecDepth 100000 in
set_option maxHeartbeats 1000000 in
theorem l01Each (ts us : List T) (ih : ∀ x ∈ ts, ∀ u, Cmps 87 x u) (from0 step : Nat) (hf : from0 ≤ 1) (hs : step = 1 ∨ step = 2) (va vb : Value) (w : World)
    (ha : Rec.term.sl.rd False w (Old w) ts [va]) (hb : Rec.term.sl.rd False w (Old w) us [vb]) (ht : Rec.term.sl.wt ts ≤ 1048576) (hu : Rec.term.sl.wt us ≤ 1048576) :
    Calls Try.prog 165 #[va, vb, .int .i64 from0, .int .i64 step] w fun e w' => e = .returned (.int .i64 (eachV ts us from0 step)) ∧ Below w.heap.size w w' := by
  obtain ⟨a1, cap1, he, hcap1, ha1⟩ := ha
  injection he with he _
  subst he
  obtain ⟨a2, cap2, he, hcap2, ha2⟩ := hb
  injection he with he _
  subst he
  have HC := Aside.mk ih
  have HA := Aside.mk ha1
  have HB := Aside.mk ha2
  have WT := Aside.mk (wt_kid ht)
  have WU := Aside.mk (wt_kid hu)
  have hn := wt_len ht
  have hm := wt_len hu
  have HS := Aside.mk hs
  have hs2 : 1 ≤ step ∧ step ≤ 2 := by omega
  obtain ⟨hs3, hs4⟩ := hs2
  obtain ⟨n, hln⟩ : ∃ n, n = ts.length := ⟨_, rfl⟩
  obtain ⟨m, hlm⟩ : ∃ m, m = us.length := ⟨_, rfl⟩
  rw [← hln] at hn hcap1 ⊢
  rw [← hlm] at hm hcap2 ⊢
  have HN := Aside.mk hln
  have HM := Aside.mk hlm
  obtain ⟨res, hres⟩ : ∃ r, r = eachV ts us from0 step := ⟨_, rfl⟩
  rw [← hres]
  have HV := Aside.mk hres
  clear ih ha1 ha2 ht hu hs hln hlm hres
  go_enter Try.func165, Try.ntmps165
  go_wp2_with fail
  go_loopw [9] (fun i wr => ∃ k : Nat, k ≤ n + 2 ∧ i = .int .i64 k ∧ Aside (Below w.heap.size w wr) ∧ Aside (res = eachV ts us k step)) (fun i _ => n + 2 - (intOf i).toNat)
  case atStart => exact ⟨from0, by omega, rfl, ⟨Below.refl _ _⟩, HV⟩
  case round =>
    obtain ⟨k, hk, rfl, hbel, hv⟩ := hrel
    clear HV
    by_cases hlt : k < n ∧ k < m
    · obtain ⟨hlt, hltm⟩ := hlt
      have hlt1 : k < ts.length := by rw [← HN.out]; exact hlt
      have hlt2 : k < us.length := by rw [← HM.out]; exact hltm
      rcases HA.out with h0 | ⟨b1, o1, rfl, hb1, f1, hf1, -, hrow1⟩
      · exfalso; rw [h0] at hlt1; exact absurd hlt1 (Nat.not_lt_zero _)
      obtain ⟨cs1, hr1, hc1⟩ := hrow1 k hlt1
      obtain ⟨x0, x1, x2, x3a, x3b, x3c, rfl⟩ := shapeTerm hr1
      rcases HB.out with h0 | ⟨b2, o2, rfl, hb2, f2, hf2, -, hrow2⟩
      · exfalso; rw [h0] at hlt2; exact absurd hlt2 (Nat.not_lt_zero _)
      obtain ⟨cs2, hr2, hc2⟩ := hrow2 k hlt2
      obtain ⟨y0, y1, y2, y3a, y3b, y3c, rfl⟩ := shapeTerm hr2
      have hbel2 := hbel.out
      have d10 : wr.cell? ⟨b1, o1 + k * 4, none⟩ = some (.int .i64 x0) := (hbel2.cell (p := ⟨b1, o1 + k * 4 + 0, none⟩) hb1).trans (hc1 0 (by decide))
      have d11 : wr.cell? ⟨b1, o1 + k * 4 + 1, none⟩ = some (.int .i64 x1) := (hbel2.cell (p := ⟨b1, o1 + k * 4 + 1, none⟩) hb1).trans (hc1 1 (by decide))
      have d12 : wr.cell? ⟨b1, o1 + k * 4 + 2, none⟩ = some (.string x2) := (hbel2.cell (p := ⟨b1, o1 + k * 4 + 2, none⟩) hb1).trans (hc1 2 (by decide))
      have d13 : wr.cell? ⟨b1, o1 + k * 4 + 3, none⟩ = some (.slice x3a x3b x3c) := (hbel2.cell (p := ⟨b1, o1 + k * 4 + 3, none⟩) hb1).trans (hc1 3 (by decide))
      have d20 : wr.cell? ⟨b2, o2 + k * 4, none⟩ = some (.int .i64 y0) := (hbel2.cell (p := ⟨b2, o2 + k * 4 + 0, none⟩) hb2).trans (hc2 0 (by decide))
      have d21 : wr.cell? ⟨b2, o2 + k * 4 + 1, none⟩ = some (.int .i64 y1) := (hbel2.cell (p := ⟨b2, o2 + k * 4 + 1, none⟩) hb2).trans (hc2 1 (by decide))
      have d22 : wr.cell? ⟨b2, o2 + k * 4 + 2, none⟩ = some (.string y2) := (hbel2.cell (p := ⟨b2, o2 + k * 4 + 2, none⟩) hb2).trans (hc2 2 (by decide))
      have d23 : wr.cell? ⟨b2, o2 + k * 4 + 3, none⟩ = some (.slice y3a y3b y3c) := (hbel2.cell (p := ⟨b2, o2 + k * 4 + 3, none⟩) hb2).trans (hc2 3 (by decide))
      have HR1 := Aside.mk (Rec.term.up (w1 := wr.drew) (Rec.term.mono hr1 (fun c hc => (hf1 k c hc).1)) (fun _ h => h) hbel2.drew)
      have HR2 := Aside.mk (Rec.term.up (w1 := wr.drew) (Rec.term.mono hr2 (fun c hc => (hf2 k c hc).1)) (fun _ h => h) hbel2.drew)
      have hst := Aside.mk (eachV_step (s := step) HS.out hlt1 hlt2)
      have W1 := WT.out k hlt1
      have W2 := WU.out k hlt2
      clear hc1 hrow1 hf1 hr1 hc2 hrow2 hf2 hr2 hbel2
      go_wp2_with fail
      go_still_tail 8, (by kernel_rfl)
      change wpList _ _ _ _ _ wr.drew
      go_wp2_with fail
      refine (HC.out ts[k] (List.getElem_mem hlt1) us[k] [.int .i64 x0, .int .i64 x1, .string x2, .slice x3a x3b x3c] [.int .i64 y0, .int .i64 y1, .string y2, .slice y3a y3b y3c] _ HR1.out HR2.out W1 W2).mono ?_
      rintro e w2 ⟨rfl, hb3⟩
      have hb4 := Aside.mk (below_later hbel.out.drew hb3)
      clear d10 d11 d12 d13 d20 d21 d22 d23 HR1 HR2 hb3 hbel
      by_cases h0 : T.cmp ts[k] us[k] = 0
      · have hv2 : Aside (res = eachV ts us (k + step) step) := ⟨by rw [hv.out, hst.out, if_pos h0]⟩
        rw [h0]
        clear hst hv h0 W1 W2
        go_wp2_with fail
        go_roundw
        case rel => exact ⟨k + step, by omega, by go_num, hb4, hv2⟩
        case measure => first | (simp [intOf]; done) | (simp [intOf]; omega)
      · have hv2 : Aside (res = T.cmp ts[k] us[k]) := ⟨by rw [hv.out, hst.out, if_neg h0]⟩
        generalize T.cmp ts[k] us[k] = c at h0 hv2 ⊢
        have h1 : (c != 0) = true := by simpa using h0
        clear hst hv h0
        go_wp2_with fail
        go_ret
        exact ⟨ret_int hv2.out.symm, hb4.out⟩
    · have hE : Aside (res = 0) := ⟨by rw [hv.out]; exact eachV_end (by have := HN.out; have := HM.out; omega)⟩
      by_cases hlt1 : k < n
      · have hlt2 : ¬ k < m := fun h => hlt ⟨hlt1, h⟩
        clear hlt
        go_wp2_with fail
        go_ret
        exact ⟨ret_int hE.out.symm, hbel.out⟩
      · clear hlt
        go_wp2_with fail
        go_ret
        exact ⟨ret_int hE.out.symm, hbel.out⟩
end Go.Proofs.Ytdldgchkinflmaa.Fn

/- Walk of the program's order of terms: rows of kids. Conditions: those of each theorem. -/
import Derived.Test.YtdldgchkinflmaaTm2
set_option linter.unusedVariables false
namespace Go.Proofs.Ytdldgchkinflmaa.Fn
open Go.RowKit Go.Proofs.Ytdldgchkinflmaa.Lib Go.Proofs.Ytdldgchkinflmaa.Plan

theorem sign (x : Int) (w : World) : Calls Try.prog 157 #[.int .i64 x] w fun e w' => e = .returned (.int .i64 (sgn x 0)) ∧ w = w' := by
  by_cases h : x < 0
  · have E := Aside.mk (show sgn x 0 = -1 from if_pos h)
    go_enter Try.func157, Try.ntmps157
    go_wp2
    go_ret
    exact ⟨ret_int E.out.symm, rfl⟩
  · by_cases h2 : 0 < x
    · have E := Aside.mk (show sgn x 0 = 1 by rw [sgn, if_neg h, if_pos h2])
      go_enter Try.func157, Try.ntmps157
      go_wp2
      go_ret
      exact ⟨ret_int E.out.symm, rfl⟩
    · have E := Aside.mk (show sgn x 0 = 0 by rw [sgn, if_neg h, if_neg h2])
      go_enter Try.func157, Try.ntmps157
      go_wp2
      go_ret
      exact ⟨ret_int E.out.symm, rfl⟩
theorem sgn_sub (a b : Int) : sgn (a - b) 0 = sgn a b := by
  unfold sgn
  split <;> split <;> (try split) <;> (try split) <;> omega
theorem sgn_self (a : Int) : sgn a a = 0 := by
  unfold sgn
  split
  · omega
  · rfl
def CmpsR (f : Nat) (x u : T) : Prop := ∀ (cx cu : List Value) (w : World), Rec.term.rd False w (Old w) x cx → Rec.term.rd False w (Old w) u cu → Rec.term.wt x ≤ 1048576 → Rec.term.wt u ≤ 1048576 → x.right = true → u.right = true →
  Calls Try.prog f #[.agg cx.toArray, .agg cu.toArray] w fun e w' => e = .returned (.int .i64 (T.cmp x u)) ∧ Below w.heap.size w w'
def kidsV (ts us : List T) : Int := if eachV ts us 0 1 = 0 then sgn ts.length us.length else eachV ts us 0 1
set_option maxRecDepth 100000 in
set_option maxHeartbeats 2000000 in
theorem compareKids (ts us : List T) (ih : ∀ x ∈ ts, ∀ u, CmpsR 74 x u) (va vb : Value) (w : World)
    (ha : Rec.term.sl.rd False w (Old w) ts [va]) (hb : Rec.term.sl.rd False w (Old w) us [vb]) (ht : Rec.term.sl.wt ts ≤ 1048576) (hu : Rec.term.sl.wt us ≤ 1048576) (hrt : ∀ x ∈ ts, x.right = true) (hru : ∀ x ∈ us, x.right = true) :
    Calls Try.prog 159 #[va, vb] w fun e w' => e = .returned (.int .i64 (kidsV ts us)) ∧ Below w.heap.size w w' := by
  obtain ⟨a1, cap1, he, hcap1, ha1⟩ := ha
  injection he with he _
  subst he
  obtain ⟨a2, cap2, he, hcap2, ha2⟩ := hb
  injection he with he _
  subst he
  have HC := Aside.mk ih
  have HA := Aside.mk ha1
  have HB := Aside.mk ha2
  have HRT := Aside.mk hrt
  have HRU := Aside.mk hru
  have WT := Aside.mk (wt_kid ht)
  have WU := Aside.mk (wt_kid hu)
  have hn := wt_len ht
  have hm := wt_len hu
  obtain ⟨res, hres⟩ : ∃ r, r = kidsV ts us := ⟨_, rfl⟩
  rw [← hres]
  have HV : Aside (res = if eachV ts us 0 1 = 0 then sgn ts.length us.length else eachV ts us 0 1) := ⟨hres⟩
  obtain ⟨n, hln⟩ : ∃ n, n = ts.length := ⟨_, rfl⟩
  obtain ⟨m, hlm⟩ : ∃ m, m = us.length := ⟨_, rfl⟩
  rw [← hln] at hn hcap1 ⊢
  rw [← hlm] at hm hcap2 ⊢
  rw [← hln, ← hlm] at HV
  have HN := Aside.mk hln
  have HM := Aside.mk hlm
  clear ih ha1 ha2 ht hu hln hlm hres hrt hru
  by_cases hmin : m < n
  all_goals
    go_enter Try.func159, Try.ntmps159
    go_wp2_with fail
    go_loopw [12] (fun i wr => ∃ k : Nat, k ≤ n ∧ k ≤ m ∧ i = .int .i64 k ∧ Aside (Below w.heap.size w wr) ∧ Aside (res = if eachV ts us k 1 = 0 then sgn n m else eachV ts us k 1)) (fun i _ => n + 2 - (intOf i).toNat)
    case atStart => exact ⟨0, by omega, by omega, rfl, ⟨Below.refl _ _⟩, HV⟩
    case round =>
      obtain ⟨k, hk, hkm, rfl, hbel, hv⟩ := hrel
      clear HV
      by_cases hlt : k < n ∧ k < m
      · obtain ⟨hlt, hltm⟩ := hlt
        have hlt1 : k < ts.length := by rw [← HN.out]; exact hlt
        have hlt2 : k < us.length := by rw [← HM.out]; exact hltm
        rcases HA.out with h0 | ⟨b1, o1, rfl, hb1, f1, hf1, -, hrow1⟩
        · exfalso; rw [h0] at hlt1; exact absurd hlt1 (Nat.not_lt_zero _)
        obtain ⟨cs1, hr1, hc1⟩ := hrow1 k hlt1
        obtain ⟨x0, x1, x2, x3a, x3b, x3c, rfl⟩ := shapeTerm hr1
        rcases HB.out with h0 | ⟨b2, o2, rfl, hb2, f2, hf2, -, hrow2⟩
        · exfalso; rw [h0] at hlt2; exact absurd hlt2 (Nat.not_lt_zero _)
        obtain ⟨cs2, hr2, hc2⟩ := hrow2 k hlt2
        obtain ⟨y0, y1, y2, y3a, y3b, y3c, rfl⟩ := shapeTerm hr2
        have hbel2 := hbel.out
        have d10 : wr.cell? ⟨b1, o1 + k * 4, none⟩ = some (.int .i64 x0) := (hbel2.cell (p := ⟨b1, o1 + k * 4 + 0, none⟩) hb1).trans (hc1 0 (by decide))
        have d11 : wr.cell? ⟨b1, o1 + k * 4 + 1, none⟩ = some (.int .i64 x1) := (hbel2.cell (p := ⟨b1, o1 + k * 4 + 1, none⟩) hb1).trans (hc1 1 (by decide))
        have d12 : wr.cell? ⟨b1, o1 + k * 4 + 2, none⟩ = some (.string x2) := (hbel2.cell (p := ⟨b1, o1 + k * 4 + 2, none⟩) hb1).trans (hc1 2 (by decide))
        have d13 : wr.cell? ⟨b1, o1 + k * 4 + 3, none⟩ = some (.slice x3a x3b x3c) := (hbel2.cell (p := ⟨b1, o1 + k * 4 + 3, none⟩) hb1).trans (hc1 3 (by decide))
        have d20 : wr.cell? ⟨b2, o2 + k * 4, none⟩ = some (.int .i64 y0) := (hbel2.cell (p := ⟨b2, o2 + k * 4 + 0, none⟩) hb2).trans (hc2 0 (by decide))
        have d21 : wr.cell? ⟨b2, o2 + k * 4 + 1, none⟩ = some (.int .i64 y1) := (hbel2.cell (p := ⟨b2, o2 + k * 4 + 1, none⟩) hb2).trans (hc2 1 (by decide))
        have d22 : wr.cell? ⟨b2, o2 + k * 4 + 2, none⟩ = some (.string y2) := (hbel2.cell (p := ⟨b2, o2 + k * 4 + 2, none⟩) hb2).trans (hc2 2 (by decide))
        have d23 : wr.cell? ⟨b2, o2 + k * 4 + 3, none⟩ = some (.slice y3a y3b y3c) := (hbel2.cell (p := ⟨b2, o2 + k * 4 + 3, none⟩) hb2).trans (hc2 3 (by decide))
        have HR1 := Aside.mk (Rec.term.up (w1 := wr.drew) (Rec.term.mono hr1 (fun c hc => (hf1 k c hc).1)) (fun _ h => h) hbel2.drew)
        have HR2 := Aside.mk (Rec.term.up (w1 := wr.drew) (Rec.term.mono hr2 (fun c hc => (hf2 k c hc).1)) (fun _ h => h) hbel2.drew)
        have hst := Aside.mk (eachV_step (s := 1) (Or.inl rfl) hlt1 hlt2)
        have W1 := WT.out k hlt1
        have W2 := WU.out k hlt2
        clear hc1 hrow1 hf1 hr1 hc2 hrow2 hf2 hr2 hbel2
        go_wp2_with fail
        go_still_tail 8, (by kernel_rfl)
        change wpList _ _ _ _ _ wr.drew
        go_wp2_with fail
        refine (HC.out ts[k] (List.getElem_mem hlt1) us[k] [.int .i64 x0, .int .i64 x1, .string x2, .slice x3a x3b x3c] [.int .i64 y0, .int .i64 y1, .string y2, .slice y3a y3b y3c] _ HR1.out HR2.out W1 W2 (HRT.out _ (List.getElem_mem hlt1)) (HRU.out _ (List.getElem_mem hlt2))).mono ?_
        rintro e w2 ⟨rfl, hb3⟩
        have hb4 := Aside.mk (below_later hbel.out.drew hb3)
        clear d10 d11 d12 d13 d20 d21 d22 d23 HR1 HR2 hb3 hbel
        by_cases h0 : T.cmp ts[k] us[k] = 0
        · have hv2 : Aside (res = if eachV ts us (k + 1) 1 = 0 then sgn n m else eachV ts us (k + 1) 1) := ⟨by rw [hv.out, hst.out, if_pos h0]⟩
          rw [h0]
          clear hst hv h0 W1 W2
          go_wp2_with fail
          go_roundw
          case rel => exact ⟨k + 1, by omega, by omega, by go_num, hb4, hv2⟩
          case measure => first | (simp [intOf]; done) | (simp [intOf]; omega)
        · have hv2 : Aside (res = T.cmp ts[k] us[k]) := ⟨by rw [hv.out, hst.out, if_neg h0, if_neg h0]⟩
          generalize T.cmp ts[k] us[k] = c at h0 hv2 ⊢
          have h1 : (c != 0) = true := by simpa using h0
          clear hst hv h0
          go_wp2_with fail
          go_ret
          exact ⟨ret_int hv2.out.symm, hb4.out⟩
      · have hE : Aside (res = sgn ((n : Int) - m) 0) := ⟨by rw [hv.out, if_pos (eachV_end (by have := HN.out; have := HM.out; omega)), sgn_sub]⟩
        have hkk : ¬ (k < m ∧ m < n) ∧ ¬ (k < n ∧ n ≤ m) := by omega
        have h1 : k < m → ¬ k < n := fun a b => hlt ⟨b, a⟩
        clear hlt hkk hv
        first
          | (have h2 : ¬ (k : Int) < m := by omega
             clear h1
             go_wp2_with fail
             refine (sign _ _).mono ?_
             rintro e w' ⟨rfl, rfl⟩
             go_wp2
             go_ret
             exact ⟨ret_int hE.out.symm, hbel.out⟩)
          | (have h2 : ¬ (k : Int) < n := by omega
             clear h1
             go_wp2_with fail
             refine (sign _ _).mono ?_
             rintro e w' ⟨rfl, rfl⟩
             go_wp2
             go_ret
             exact ⟨ret_int hE.out.symm, hbel.out⟩)
end Go.Proofs.Ytdldgchkinflmaa.Fn

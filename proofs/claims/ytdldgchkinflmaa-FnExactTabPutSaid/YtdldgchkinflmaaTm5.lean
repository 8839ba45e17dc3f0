/- Walk of the program's order of terms. Conditions: those of each theorem. -/
import Derived.Test.YtdldgchkinflmaaTm4
set_option linter.unusedVariables false
namespace Go.Proofs.Ytdldgchkinflmaa.Fn
open Go.RowKit Go.Proofs.Ytdldgchkinflmaa.Lib Go.Proofs.Ytdldgchkinflmaa.Plan

set_option maxRecDepth 100000 in
set_option maxHeartbeats 4000000 in
/-- .. of two maps with as many kids. -/
theorem compare7 (n n' : Int) (s s' : ByteArray) (ts us : List T) (ih : ∀ x ∈ ts, ∀ u, CmpsR 74 x u) (A1 A2 : Option Addr) (c1 c2 : Nat) (w : World)
    (h1 : Rec.term.sl.rd False w (Old w) ts [.slice A1 ts.length c1]) (h2 : Rec.term.sl.rd False w (Old w) us [.slice A2 us.length c2]) (ht : Rec.term.sl.wt ts ≤ 1048576) (hu : Rec.term.sl.wt us ≤ 1048576)
    (hrt : ∀ x ∈ ts, x.right = true) (hru : ∀ x ∈ us, x.right = true) (hlen : ts.length = us.length) :
    Calls Try.prog 74 #[.agg #[.int .i64 7, .int .i64 n, .string s, .slice A1 ts.length c1], .agg #[.int .i64 7, .int .i64 n', .string s', .slice A2 us.length c2]] w fun e w' => e = .returned (.int .i64 (partV ts us 0)) ∧ Below w.heap.size w w' := by
  obtain ⟨_, _, he, -, ha1⟩ := h1
  injection he with he _
  injection he with e1 e2 e3
  subst e1 e3
  obtain ⟨_, _, he, -, ha2⟩ := h2
  injection he with he _
  injection he with e1 e2 e3
  subst e1 e3
  have HC := Aside.mk ih
  have HA := Aside.mk ha1
  have HB := Aside.mk ha2
  have HRT := Aside.mk hrt
  have HRU := Aside.mk hru
  have WT := Aside.mk (wt_kid ht)
  have WU := Aside.mk (wt_kid hu)
  have hn := wt_len ht
  obtain ⟨res, hres⟩ : ∃ r, r = partV ts us 0 := ⟨_, rfl⟩
  rw [← hres]
  have HV := Aside.mk hres
  obtain ⟨m, hln⟩ : ∃ m, m = ts.length := ⟨_, rfl⟩
  rw [← hlen, ← hln]
  rw [← hln] at hn
  have HN := Aside.mk hln
  have HM : Aside (m = us.length) := ⟨by omega⟩
  clear ih ha1 ha2 ht hu hln hres hrt hru hlen
  have K0 : Aside (Blk ((w.alloc (.cells #[.int .i64 7, .int .i64 n, .string s, .slice A1 m c1] 26)).alloc (.cells #[.int .i64 7, .int .i64 n', .string s', .slice A2 m c2] 26)) w.heap.size 26 [.int .i64 7, .int .i64 n, .string s, .slice A1 m c1]) := ⟨(Blk.new w 26 [.int .i64 7, .int .i64 n, .string s, .slice A1 m c1]).alloc _⟩
  have K1 : Aside (Blk ((w.alloc (.cells #[.int .i64 7, .int .i64 n, .string s, .slice A1 m c1] 26)).alloc (.cells #[.int .i64 7, .int .i64 n', .string s', .slice A2 m c2] 26)) (w.heap.size + 1) 26 [.int .i64 7, .int .i64 n', .string s', .slice A2 m c2]) := ⟨Blk.made (w.alloc _) 26 [.int .i64 7, .int .i64 n', .string s', .slice A2 m c2] (g := w.heap.size + 1) (by simp)⟩
  have B0 : Aside (Below w.heap.size w ((w.alloc (.cells #[.int .i64 7, .int .i64 n, .string s, .slice A1 m c1] 26)).alloc (.cells #[.int .i64 7, .int .i64 n', .string s', .slice A2 m c2] 26))) := ⟨by go_grown⟩
  go_enter Try.func74, Try.ntmps74
  go_wp2_with fail
  go_loopw [82] (fun i wr => ∃ p : Nat, p ≤ 2 ∧ i = .int .i64 p ∧ Aside (Blk wr w.heap.size 26 [.int .i64 7, .int .i64 n, .string s, .slice A1 m c1]) ∧ Aside (Blk wr (w.heap.size + 1) 26 [.int .i64 7, .int .i64 n', .string s', .slice A2 m c2]) ∧ Aside (Below w.heap.size w wr) ∧ Aside (res = partV ts us p)) (fun i _ => 2 - (intOf i).toNat)
  case atStart => exact ⟨0, Nat.zero_le _, rfl, K0, K1, B0, HV⟩
  case round =>
    obtain ⟨p, hp, rfl, hk0, hk1, hb0, hv0⟩ := hrel
    clear K0 K1 B0 HV
    by_cases hlp : p < 2
    · have hst0 : Aside (res = if eachV ts us p 2 = 0 then partV ts us (p + 1) else eachV ts us p 2) := ⟨by rw [hv0.out, partV_step ts us hlp]⟩
      clear hv0
      go_wp2_with fail
      obtain ⟨w0, rfl⟩ : ∃ w0, w0 = wr := ⟨_, rfl⟩
      have HLP := Aside.mk hlp
      have hpm : p ≤ m + 2 := by omega
      rw [show decide ((p : Int) < 2) = true from decide_eq_true (by omega)]
      clear hlp hp
      go_loopw [6] (fun i wr => ∃ k : Nat, k ≤ m + 2 ∧ i = .int .i64 k ∧ Aside (Blk wr w.heap.size 26 [.int .i64 7, .int .i64 n, .string s, .slice A1 m c1]) ∧ Aside (Blk wr (w.heap.size + 1) 26 [.int .i64 7, .int .i64 n', .string s', .slice A2 m c2]) ∧ Aside (Below w.heap.size w wr) ∧ Aside (res = if eachV ts us k 2 = 0 then partV ts us (p + 1) else eachV ts us k 2)) (fun i _ => m + 4 - (intOf i).toNat)
      case atStart => exact ⟨p, hpm, rfl, hk0, hk1, hb0, hst0⟩
      case round =>
        obtain ⟨k, hk, rfl, hj0, hj1, hbel, hv⟩ := hrel
        clear hk0 hk1 hb0 hst0
        have z0 := hj0.out.cell 3
        have z1 := hj1.out.cell 3
        simp only [List.getElem?_cons_zero, List.getElem?_cons_succ] at z0 z1
        by_cases hlt : k < m
        · have hlt1 : k < ts.length := by rw [← HN.out]; exact hlt
          have hlt2 : k < us.length := by rw [← HM.out]; exact hlt
          rcases HA.out with h0 | ⟨b1, o1, rfl, hb1, f1, hf1, -, hrow1⟩
          · exfalso; rw [h0] at hlt1; exact absurd hlt1 (Nat.not_lt_zero _)
          obtain ⟨cs1, hr1, hc1⟩ := hrow1 k hlt1
          obtain ⟨x0, x1, x2, x3a, x3b, x3c, rfl⟩ := shapeTerm hr1
          rcases HB.out with h0 | ⟨b2, o2, rfl, hb2, f2, hf2, -, hrow2⟩
          · exfalso; rw [h0] at hlt2; exact absurd hlt2 (Nat.not_lt_zero _)
          obtain ⟨cs2, hr2, hc2⟩ := hrow2 k hlt2
          obtain ⟨y0, y1, y2, y3a, y3b, y3c, rfl⟩ := shapeTerm hr2
          have hbel2 := hbel.out
          have d10 : wr.cell? ⟨b1, o1 + k * 4, none⟩ = some (.int .i64 x0) := (hbel2.cell (p := ⟨b1, o1 + k * 4 + 0, none⟩) hb1).trans (hc1 0 (by decide))
          have d11 : wr.cell? ⟨b1, o1 + k * 4 + 1, none⟩ = some (.int .i64 x1) := (hbel2.cell (p := ⟨b1, o1 + k * 4 + 1, none⟩) hb1).trans (hc1 1 (by decide))
          have d12 : wr.cell? ⟨b1, o1 + k * 4 + 2, none⟩ = some (.string x2) := (hbel2.cell (p := ⟨b1, o1 + k * 4 + 2, none⟩) hb1).trans (hc1 2 (by decide))
          have d13 : wr.cell? ⟨b1, o1 + k * 4 + 3, none⟩ = some (.slice x3a x3b x3c) := (hbel2.cell (p := ⟨b1, o1 + k * 4 + 3, none⟩) hb1).trans (hc1 3 (by decide))
          have d20 : wr.cell? ⟨b2, o2 + k * 4, none⟩ = some (.int .i64 y0) := (hbel2.cell (p := ⟨b2, o2 + k * 4 + 0, none⟩) hb2).trans (hc2 0 (by decide))
          have d21 : wr.cell? ⟨b2, o2 + k * 4 + 1, none⟩ = some (.int .i64 y1) := (hbel2.cell (p := ⟨b2, o2 + k * 4 + 1, none⟩) hb2).trans (hc2 1 (by decide))
          have d22 : wr.cell? ⟨b2, o2 + k * 4 + 2, none⟩ = some (.string y2) := (hbel2.cell (p := ⟨b2, o2 + k * 4 + 2, none⟩) hb2).trans (hc2 2 (by decide))
          have d23 : wr.cell? ⟨b2, o2 + k * 4 + 3, none⟩ = some (.slice y3a y3b y3c) := (hbel2.cell (p := ⟨b2, o2 + k * 4 + 3, none⟩) hb2).trans (hc2 3 (by decide))
          have HR1 := Aside.mk (Rec.term.up (w1 := wr.drew) (Rec.term.mono hr1 (fun c hc => (hf1 k c hc).1)) (fun _ h => h) hbel2.drew)
          have HR2 := Aside.mk (Rec.term.up (w1 := wr.drew) (Rec.term.mono hr2 (fun c hc => (hf2 k c hc).1)) (fun _ h => h) hbel2.drew)
          have hst := Aside.mk (eachV_step (s := 2) (Or.inr rfl) hlt1 hlt2)
          have W1 := WT.out k hlt1
          have W2 := WU.out k hlt2
          clear hc1 hrow1 hf1 hr1 hc2 hrow2 hf2 hr2 hbel2
          go_wp2_with fail
          go_still_tail 10, (by kernel_rfl)
          change wpList _ _ _ _ _ wr.drew
          go_wp2_with fail
          refine (HC.out ts[k] (List.getElem_mem hlt1) us[k] [.int .i64 x0, .int .i64 x1, .string x2, .slice x3a x3b x3c] [.int .i64 y0, .int .i64 y1, .string y2, .slice y3a y3b y3c] _ HR1.out HR2.out W1 W2 (HRT.out _ (List.getElem_mem hlt1)) (HRU.out _ (List.getElem_mem hlt2))).mono ?_
          rintro e w2 ⟨rfl, hb3⟩
          have hb4 := Aside.mk (below_later hbel.out.drew hb3)
          have hj2 := Aside.mk (hj0.out.drew.below hb3)
          have hj3 := Aside.mk (hj1.out.drew.below hb3)
          clear d10 d11 d12 d13 d20 d21 d22 d23 HR1 HR2 hb3 hbel z0 z1 hj0 hj1
          by_cases h0 : T.cmp ts[k] us[k] = 0
          · have hv2 : Aside (res = if eachV ts us (k + 2) 2 = 0 then partV ts us (p + 1) else eachV ts us (k + 2) 2) := ⟨by rw [hv.out, hst.out, if_pos h0]⟩
            rw [h0]
            clear hst hv h0 W1 W2
            go_wp2_with fail
            go_roundw
            case rel => exact ⟨k + 2, by omega, by go_num, hj2, hj3, hb4, hv2⟩
            case measure => first | (simp [intOf]; done) | (simp [intOf]; omega)
          · have hv2 : Aside (res = T.cmp ts[k] us[k]) := ⟨by rw [hv.out, hst.out, if_neg h0, if_neg h0]⟩
            generalize T.cmp ts[k] us[k] = c at h0 hv2 ⊢
            have h1 : (c != 0) = true := by simpa using h0
            clear hst hv h0
            go_wp2_with fail
            go_ret
            exact ⟨ret_int hv2.out.symm, hb4.out⟩
        · have hE : Aside (res = partV ts us (p + 1)) := ⟨by rw [hv.out, if_pos (eachV_end (by have := HN.out; omega))]⟩
          clear hv
          go_wp2_with fail
          go_roundw
          case rel => exact ⟨p + 1, HLP.out, by go_num, hj0, hj1, hbel, hE⟩
          case measure => have := HLP.out; first | (simp [intOf]; done) | (simp [intOf]; omega)
    · obtain rfl : p = 2 := by omega
      have hE : Aside (res = 0) := ⟨hv0.out⟩
      go_wp2_with fail
      go_ret
      exact ⟨ret_int hE.out.symm, hb0.out⟩
end Go.Proofs.Ytdldgchkinflmaa.Fn

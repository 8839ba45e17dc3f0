/- Marks in rows of Term. Conditions: those of each theorem. -/
import Derived.Test.YtdldgchkinflmaaMark
import Derived.Test.YtdldgchkinflmaaGTerm
set_option linter.unusedVariables false
namespace Go.Proofs.Ytdldgchkinflmaa.Lib
open Go.RowKit Go.Proofs.Ytdldgchkinflmaa.Plan
inductive HeldTermS : List T → Int → Int → Prop
  | nil (k : Int) : HeldTermS [] k k
  | cons {x : T} {xs : List T} {k k1 k' : Int} (h0 : x.kind = k) (h1 : x.num = k + 1) (h2 : x.str = mtext (k + 1 + 1)) (h3 : HeldTermS x.kids (k + 1 + 1 + 1) k1) (hr : HeldTermS xs (k1) k') : HeldTermS (x :: xs) k k'
theorem HeldTermS.app {l : List T} {m : List T} {k k1 k2 : Int} (h : HeldTermS l k k1) (g : HeldTermS m k1 k2) : HeldTermS (l ++ m) k k2 := by
  induction h with
  | nil k => exact g
  | cons h0 h1 h2 h3 hr ih1 ih => exact .cons h0 h1 h2 h3 (ih g)
theorem HeldTermS.le {l : List T} {k k' : Int} (h : HeldTermS l k k') : k ≤ k' := by
  induction h with
  | nil k => exact Int.le_refl _
  | cons h0 h1 h2 h3 hr ih1 ih => omega
theorem HeldTermS.inv {x : T} {xs : List T} {k k' : Int} (h : HeldTermS (x :: xs) k k') : ∃ k3 : Int, x.kind = k ∧ x.num = k + 1 ∧ x.str = mtext (k + 1 + 1) ∧ HeldTermS x.kids (k + 1 + 1 + 1) k3 ∧ HeldTermS xs (k3) k' := by
  cases h with
  | cons h0 h1 h2 h3 hr => exact ⟨_, h0, h1, h2, h3, hr⟩
theorem HeldTermS.len {l : List T} {k k' : Int} (h : HeldTermS l k k') : k + l.length ≤ k' := by
  induction h with
  | nil k => simp
  | cons h0 h1 h2 h3 hr ih1 ih => rw [List.length_cons]; omega
set_option maxRecDepth 100000 in
set_option maxHeartbeats 2000000 in
theorem markTermS (xs : List T) (ih : ∀ x ∈ xs, MarkOK 84 Rec.term HeldTermS x.kids) : MarkOK 84 Rec.term HeldTermS xs := by
  intro v w S k0 h hS h1 h2
  obtain ⟨ao, cap, he, hcap, hao⟩ := h
  injection he with he _
  subst he
  have hsum : Rec.term.sl.wt xs = xs.length + wts Rec.term xs xs.length := by rw [wts_all]; rfl
  have HIH := Aside.mk ih
  clear ih
  have HS := Aside.mk hS
  have HCAP := Aside.mk hcap
  rcases hao with rfl | ⟨b, o, rfl, hrow⟩
  · have hsum0 : Rec.term.sl.wt ([] : List T) = 0 := rfl
    clear hS
    show Calls Try.prog 84 #[.slice ao 0 cap, .int .i64 k0] w _
    go_enter Try.func84, Try.ntmps84
    go_wp2_with fail
    go_loopw [1, 5] (fun kv iv wr => iv = .int .i64 0 ∧ kv = .int .i64 k0 ∧ Aside (wr = w)) (fun _ _ _ => 0)
    case atStart => exact ⟨rfl, rfl, ⟨rfl⟩⟩
    case round =>
      obtain ⟨rfl, rfl, hw⟩ := hrel
      go_wp2_with fail
      go_ret
      obtain rfl := hw.out
      exact ⟨k0, [], rfl, .nil _, rfl, ⟨ao, cap, rfl, HCAP.out, Or.inl rfl⟩, But.refl _ _, Int.le_refl _, by rw [hsum0]; omega⟩
  generalize hNN : Rec.term.sl.wt xs = NN at hsum h2
  have HNN := Aside.mk hNN
  obtain ⟨n, hln⟩ : ∃ n, n = xs.length := ⟨_, rfl⟩
  have HL := Aside.mk hln
  have HM := Aside.mk (fun k (hk : k ≤ xs.length) => show wts Rec.term xs k ≤ wts Rec.term xs xs.length by rw [wts_all]; exact wts_le _ _ _)
  rw [← hln] at hsum hcap HM HCAP ⊢
  generalize hW : wts Rec.term xs n = W at hsum HM
  have HW := Aside.mk hW
  have hn1 : n ≤ 4611686018427387904 := by omega
  have M0 : Aside (MarkedTo Rec.term HeldTermS xs xs w w S b o k0 k0 0) := ⟨MarkedTo.start hrow (.nil _)⟩
  have HB : Aside (S b) := ⟨hrow.1⟩
  have h00 := Aside.mk (wts_zero Rec.term xs)
  clear hNN hln hW hrow hS
  go_enter Try.func84, Try.ntmps84
  go_wp2_with fail
  go_loopw [1, 5] (fun kv iv wr => ∃ (i : Nat) (kk : Int) (q : Nat) (ys : List T), i ≤ n ∧ iv = .int .i64 i ∧ kv = .int .i64 kk ∧ k0 ≤ kk ∧ Aside (q = wts Rec.term xs i) ∧ kk ≤ k0 + 8 * (i + q) ∧ Aside (MarkedTo Rec.term HeldTermS xs ys w wr S b o k0 kk i)) (fun _ iv _ => n - (intOf iv).toNat)
  case atStart => exact ⟨0, k0, 0, xs, Nat.zero_le _, rfl, rfl, Int.le_refl _, ⟨h00.out.symm⟩, by omega, M0⟩
  case round =>
    obtain ⟨i, kk, q, ys, hi, rfl, rfl, hk0, hq, hkk, hm⟩ := hrel
    clear M0
    have hqW : q ≤ W := by rw [hq.out]; exact HM.out i hi
    by_cases hlt : i < n
    rotate_left
    · obtain rfl : i = n := by omega
      go_wp2_with fail
      go_ret
      exact MarkedTo.done HL.out HCAP.out hk0 (by first | omega | (rw [HNN.out]; omega)) hm.out
    have hlt2 : i < xs.length := by rw [← HL.out]; exact hlt
    have hstep : Aside (wts Rec.term xs (i + 1) = q + Rec.term.wt xs[i]) := ⟨by rw [hq.out]; exact wts_succ _ _ _ hlt2⟩
    have hle : wts Rec.term xs (i + 1) ≤ W := HM.out (i + 1) hlt
    rw [hstep.out] at hle
    have HMM := hm
    obtain ⟨hlen, hrow, hheld, hrest, hbut⟩ := hm.out
    obtain ⟨F, cs, hF, hr1, hc1, hfz, hback⟩ := hrow.focus i (by omega)
    have hyx : ys[i]'(by omega) = xs[i] := by
      have := hrest i (Nat.le_refl _)
      rw [List.getElem?_eq_getElem (by omega), List.getElem?_eq_getElem (by omega)] at this
      exact Option.some.inj this
    rw [hyx] at hr1
    obtain ⟨x, hx⟩ : ∃ x, x = xs[i] := ⟨_, rfl⟩
    rw [← hx] at hr1 hle
    have HX := Aside.mk hx
    have ihx := Aside.mk (HIH.out xs[i] (List.getElem_mem hlt2))
    rw [← hx] at ihx
    have hwx := Rec.term_wt x
    obtain ⟨A3, c3, rfl, hk3⟩ := Rec.term_iff.1 hr1
    obtain ⟨m3, hm3⟩ : ∃ m, Rec.term.sl.wt x.kids = m := ⟨_, rfl⟩
    have HM3 := Aside.mk hm3
    obtain ⟨mx, hmx⟩ : ∃ m, Rec.term.wt x = m := ⟨_, rfl⟩
    have HMX := Aside.mk hmx
    rw [hmx] at hle
    have hmle3 : m3 ≤ mx := by rw [← hmx, ← hm3]; omega
    have hblt : b < wr.heap.size := Nat.lt_of_lt_of_le (HS.out b HB.out) hbut.size
    have HF := Aside.mk hF
    have HBK := Aside.mk hback
    have HFZ := Aside.mk hfz
    have HSW : Aside (∀ c, S c → c < wr.heap.size) := ⟨fun c hc => Nat.lt_of_lt_of_le (HS.out c hc) hbut.size⟩
    have HC : Aside (Cells wr b (o + i * 4) [.int .i64 x.kind, .int .i64 x.num, .string x.str, .slice A3 x.kids.length c3]) := ⟨hc1⟩
    have HO : Aside (Only b (o + i * 4) (o + i * 4 + 4) F wr wr) := ⟨Only.refl _ _ _ _ _⟩
    have HK3 := Aside.mk hk3
    clear hback hc1 hF hfz hrow hheld hrest hbut hyx hx hlen hmx
    clear hwx hk3 hm3
    have hbw : b < wr.heap.size := hblt
    have y0 : wr.cell? ⟨b, o + i * 4, none⟩ = some (.int .i64 x.kind) := HC.out.at 0 (by simp)
    have z0 : wr.frozen? ⟨b, o + i * 4, none⟩ = false := (HO.out.froz _).trans (HFZ.out _)
    have y1 : wr.cell? ⟨b, o + i * 4 + 1, none⟩ = some (.int .i64 x.num) := HC.out.at 1 (by simp)
    have z1 : wr.frozen? ⟨b, o + i * 4 + 1, none⟩ = false := (HO.out.froz _).trans (HFZ.out _)
    have y2 : wr.cell? ⟨b, o + i * 4 + 2, none⟩ = some (.string x.str) := HC.out.at 2 (by simp)
    have z2 : wr.frozen? ⟨b, o + i * 4 + 2, none⟩ = false := (HO.out.froz _).trans (HFZ.out _)
    have y3 : wr.cell? ⟨b, o + i * 4 + 3, none⟩ = some (.slice A3 x.kids.length c3) := HC.out.at 3 (by simp)
    have z3 : wr.frozen? ⟨b, o + i * 4 + 3, none⟩ = false := (HO.out.froz _).trans (HFZ.out _)
    go_wp2_with fail
    with_reducible refine (markText (kk + 1 + 1) _ (by omega) (by omega)).mono ?_
    rintro e w1 ⟨rfl, hb1⟩
    have hstep2 : But (fun c => c = b ∨ (NoB) c) wr w1 := (((But.refl (fun c => c = b ∨ (NoB) c) wr).set (p := ⟨b, o + i * 4 + 0, none⟩) (Or.inl rfl) (.int .i64 (kk))).set (p := ⟨b, o + i * 4 + 1, none⟩) (Or.inl rfl) (.int .i64 (kk + 1))).trans (But.mono (But.below (S := NoB) hb1) (fun c hc => Or.inr hc))
    have HC2 : Aside (Cells w1 b (o + i * 4) [.int .i64 (kk), .int .i64 (kk + 1), .string x.str, .slice A3 x.kids.length c3]) := ⟨((HC.out.set 0 (.int .i64 (kk))).set 1 (.int .i64 (kk + 1))).call (But.below (S := NoB) hb1) (fun hh => hh) (by simpa using hbw)⟩
    have HO2 : Aside (Only b (o + i * 4) (o + i * 4 + 4) F wr w1) := ⟨((HO.out.set (j := o + i * 4 + 0) ⟨by omega, by omega⟩ (.int .i64 (kk))).set (j := o + i * 4 + 1) ⟨by omega, by omega⟩ (.int .i64 (kk + 1))).call (But.below (S := NoB) hb1) (fun c hc => hc.elim) (fun hh => (HF.out b hh).2 rfl) (by simpa using hbw)⟩
    have HKn3 := Aside.mk (Rec.term.sl.but HK3.out hstep2 (fun c hc => ⟨Nat.lt_of_lt_of_le (HSW.out c (HF.out c (hc)).1) HO.out.but.size, fun hh => hh.elim (HF.out c (hc)).2 (fun h => h.elim)⟩))
    clear hbw y0 z0 y1 z1 y2 z2 y3 z3
    clear HC HO hstep2 HK3
    have HC := HC2
    have HO := HO2
    clear HC2 HO2
    have HK3 := HKn3
    clear HKn3
    clear hb1
    have hbw : b < w1.heap.size := Nat.lt_of_lt_of_le hblt HO.out.but.size
    have y0 : w1.cell? ⟨b, o + i * 4, none⟩ = some (.int .i64 (kk)) := HC.out.at 0 (by simp)
    have z0 : w1.frozen? ⟨b, o + i * 4, none⟩ = false := (HO.out.froz _).trans (HFZ.out _)
    have y1 : w1.cell? ⟨b, o + i * 4 + 1, none⟩ = some (.int .i64 (kk + 1)) := HC.out.at 1 (by simp)
    have z1 : w1.frozen? ⟨b, o + i * 4 + 1, none⟩ = false := (HO.out.froz _).trans (HFZ.out _)
    have y2 : w1.cell? ⟨b, o + i * 4 + 2, none⟩ = some (.string x.str) := HC.out.at 2 (by simp)
    have z2 : w1.frozen? ⟨b, o + i * 4 + 2, none⟩ = false := (HO.out.froz _).trans (HFZ.out _)
    have y3 : w1.cell? ⟨b, o + i * 4 + 3, none⟩ = some (.slice A3 x.kids.length c3) := HC.out.at 3 (by simp)
    have z3 : w1.frozen? ⟨b, o + i * 4 + 3, none⟩ = false := (HO.out.froz _).trans (HFZ.out _)
    go_wp2_with fail
    refine (ihx.out (.slice A3 x.kids.length c3) _ F (kk + 1 + 1 + 1) (Rec.term.sl.but HK3.out ((But.refl (fun c => c = b) w1).set (p := ⟨b, o + i * 4 + 2, none⟩) rfl (.string (mtext (kk + 1 + 1)))) (fun c hc => ⟨Nat.lt_of_lt_of_le (HSW.out c (HF.out c (hc)).1) HO.out.but.size, (HF.out c (hc)).2⟩)) (fun c hc => by have h1 := HSW.out c (HF.out c (hc)).1; have h2 := HO.out.but.size; simp; omega) (by omega) (by rw [HM3.out]; omega)).mono ?_
    rintro e w2 ⟨k3, z3s, rfl, hh3, hl3, hr3, hb1, hle3a, hle3b⟩
    rw [HM3.out] at hle3b
    have HKm := Aside.mk hr3
    have HH3 := Aside.mk hh3
    have HL3 := Aside.mk hl3
    clear HK3 hr3 hh3 hl3
    have hstep2 : But (fun c => c = b ∨ (F) c) w1 w2 := ((But.refl (fun c => c = b ∨ (F) c) w1).set (p := ⟨b, o + i * 4 + 2, none⟩) (Or.inl rfl) (.string (mtext (kk + 1 + 1)))).trans (But.mono hb1 (fun c hc => Or.inr hc))
    have HC2 : Aside (Cells w2 b (o + i * 4) [.int .i64 (kk), .int .i64 (kk + 1), .string (mtext (kk + 1 + 1)), .slice A3 x.kids.length c3]) := ⟨(HC.out.set 2 (.string (mtext (kk + 1 + 1)))).call hb1 (fun hh => (HF.out b (hh)).2 rfl) (by simpa using hbw)⟩
    have HO2 : Aside (Only b (o + i * 4) (o + i * 4 + 4) F wr w2) := ⟨(HO.out.set (j := o + i * 4 + 2) ⟨by omega, by omega⟩ (.string (mtext (kk + 1 + 1)))).call hb1 (fun c hc => hc) (fun hh => (HF.out b hh).2 rfl) (by simpa using hbw)⟩
    clear hbw y0 z0 y1 z1 y2 z2 y3 z3
    clear HC HO hstep2 hb1 
    have HC := HC2
    have HO := HO2
    clear HC2 HO2
    have HK3 := HKm
    clear HKm
    have hbw : b < w2.heap.size := Nat.lt_of_lt_of_le hblt HO.out.but.size
    have y0 : w2.cell? ⟨b, o + i * 4, none⟩ = some (.int .i64 (kk)) := HC.out.at 0 (by simp)
    have z0 : w2.frozen? ⟨b, o + i * 4, none⟩ = false := (HO.out.froz _).trans (HFZ.out _)
    have y1 : w2.cell? ⟨b, o + i * 4 + 1, none⟩ = some (.int .i64 (kk + 1)) := HC.out.at 1 (by simp)
    have z1 : w2.frozen? ⟨b, o + i * 4 + 1, none⟩ = false := (HO.out.froz _).trans (HFZ.out _)
    have y2 : w2.cell? ⟨b, o + i * 4 + 2, none⟩ = some (.string (mtext (kk + 1 + 1))) := HC.out.at 2 (by simp)
    have z2 : w2.frozen? ⟨b, o + i * 4 + 2, none⟩ = false := (HO.out.froz _).trans (HFZ.out _)
    have y3 : w2.cell? ⟨b, o + i * 4 + 3, none⟩ = some (.slice A3 x.kids.length c3) := HC.out.at 3 (by simp)
    have z3 : w2.frozen? ⟨b, o + i * 4 + 3, none⟩ = false := (HO.out.froz _).trans (HFZ.out _)
    go_wp2_with fail
    go_roundw
    case measure => first | (simp [intOf]; done) | (simp [intOf]; omega)
    case rel =>
      refine ⟨i + 1, k3, q + mx, ys.set i (T.mk (kk) (kk + 1) (mtext (kk + 1 + 1)) z3s), by omega, by go_num, by first | rfl | (refine congrArg _ ?_; omega), by omega, ⟨by rw [hstep.out, ← HX.out, HMX.out]⟩, by omega, ⟨HMM.out.next (lo := o + i * 4) (hi := o + i * 4 + 4) (F := F) HeldTermS.app (T.mk (kk) (kk + 1) (mtext (kk + 1 + 1)) z3s) HL.out hlt2 ?hd (HBK.out _ _ [.int .i64 (kk), .int .i64 (kk + 1), .string (mtext (kk + 1 + 1)), .slice A3 z3s.length c3] ?rd ?cl ?on HSW.out) ?on2 ?bt⟩⟩
      case hd => exact .cons rfl rfl rfl HH3.out (.nil _)
      case cl =>
        have e3 := HL3.out
        rw [e3]
        exact HC.out
      case on => exact HO.out
      case on2 => exact HO.out
      case bt => exact fun c hc => hc.elim (fun e => e ▸ HB.out) (fun h => (HF.out c h).1)
      case rd =>
        have r3 := (Rec.term.sl.but HK3.out (But.refl (fun c => c = b) w2) (fun c hc => ⟨Nat.lt_of_lt_of_le (HSW.out c (HF.out c (hc)).1) HO.out.but.size, (HF.out c (hc)).2⟩))
        rw [show x.kids.length = z3s.length from HL3.out.symm] at r3
        exact Rec.term_iff.2 ⟨_, _, rfl, r3⟩
theorem markTermKids (t : T) : MarkOK 84 Rec.term HeldTermS t.kids := by
  induction t using T.ind with
  | h k n s ts ih => exact markTermS ts ih
theorem markTermAll (xs : List T) : MarkOK 84 Rec.term HeldTermS xs := markTermS xs (fun x _ => markTermKids x)
set_option maxRecDepth 100000 in
set_option maxHeartbeats 2000000 in
theorem heldTermS (xs : List T) (ih : ∀ x ∈ xs, HeldOK 85 Rec.term HeldTermS x.kids) : HeldOK 85 Rec.term HeldTermS xs := by
  intro v w k0 k' h hh h1 h2
  obtain ⟨ao, cap, he, hcap, hao⟩ := h
  injection he with he _
  subst he
  have HIH := Aside.mk ih
  clear ih
  have HA := Aside.mk hao
  obtain ⟨n, hln⟩ : ∃ n, n = xs.length := ⟨_, rfl⟩
  have HL := Aside.mk hln
  have hn1 : (n : Int) ≤ k' := by have := HeldTermS.len hh; omega
  rw [← hln] at hcap ⊢
  have H0 : Aside (HeldTermS (xs.drop 0) k0 k') := ⟨hh⟩
  clear hao hln hh
  go_enter Try.func85, Try.ntmps85
  go_wp2_with fail
  go_loopw [1, 5] (fun kv iv wr => ∃ (i : Nat) (kk : Int), i ≤ n ∧ iv = .int .i64 i ∧ kv = .int .i64 kk ∧ 1 ≤ kk ∧ Aside (HeldTermS (xs.drop i) kk k') ∧ Aside (Below w.heap.size w wr)) (fun _ iv _ => n - (intOf iv).toNat)
  case atStart => exact ⟨0, k0, Nat.zero_le _, rfl, rfl, h1, H0, ⟨Below.refl _ _⟩⟩
  case round =>
    obtain ⟨i, kk, hi, rfl, rfl, hk1, hd, hbel⟩ := hrel
    clear H0
    by_cases hlt : i < n
    rotate_left
    · obtain rfl : i = n := by omega
      have hend : kk = k' := by
        have hd2 := hd.out
        rw [List.drop_eq_nil_of_le (by rw [HL.out]; exact Nat.le_refl _)] at hd2
        cases hd2; rfl
      subst hend
      go_wp2_with fail
      go_ret
      exact ⟨rfl, hbel.out⟩
    have hlt2 : i < xs.length := by rw [← HL.out]; exact hlt
    have hd2 := hd.out
    rw [List.drop_eq_getElem_cons hlt2] at hd2
    rcases HA.out with h0 | ⟨b, o, rfl, hb, f, hf, -, hrow⟩
    · exfalso; rw [h0] at hlt2; exact absurd hlt2 (Nat.not_lt_zero _)
    obtain ⟨cs, hr1, hc⟩ := hrow i hlt2
    have hr1 := Rec.term.up (w1 := wr) (Rec.term.mono hr1 (fun c hc => (hf i c hc).1)) (fun _ h => h) hbel.out
    have ihx := Aside.mk (HIH.out xs[i] (List.getElem_mem hlt2))
    obtain ⟨x, hx⟩ : ∃ x, x = xs[i] := ⟨_, rfl⟩
    rw [← hx] at hr1 hd2 ihx
    obtain ⟨k3, e0, e1, e2, e3, hrest⟩ := HeldTermS.inv hd2
    obtain ⟨A3, c3, rfl, hk3⟩ := Rec.term_iff.1 hr1
    have hcell : ∀ t, t < 4 → wr.cell? ⟨b, o + i * 4 + t, none⟩ = [.int .i64 (kk), .int .i64 (kk + 1), .string (mtext (kk + 1 + 1)), .slice A3 x.kids.length c3][t]? := by
      intro t ht
      have h3 := (hbel.out.cell (p := ⟨b, o + i * 4 + t, none⟩) hb).trans (hc t ht)
      rw [show x.kind = _ from e0] at h3
      rw [show x.num = _ from e1] at h3
      rw [show x.str = _ from e2] at h3
      exact h3
    have hrl := hrest.le
    have hel3 := e3.le
    have HR2 := Aside.mk hrest
    have HE3 := Aside.mk e3
    have HK3 := Aside.mk hk3
    have HCE := Aside.mk hcell
    clear hd2 hd hrow hf hc hr1 hrest hcell hx e0 e1 e2 e3
    clear hk3
    have y0 : wr.cell? ⟨b, o + i * 4, none⟩ = some (.int .i64 (kk)) := HCE.out 0 (by decide)
    have y1 : wr.cell? ⟨b, o + i * 4 + 1, none⟩ = some (.int .i64 (kk + 1)) := HCE.out 1 (by decide)
    have y2 : wr.cell? ⟨b, o + i * 4 + 2, none⟩ = some (.string (mtext (kk + 1 + 1))) := HCE.out 2 (by decide)
    have y3 : wr.cell? ⟨b, o + i * 4 + 3, none⟩ = some (.slice A3 x.kids.length c3) := HCE.out 3 (by decide)
    go_wp2_with fail
    have hbo : b < wr.heap.size := Nat.lt_of_lt_of_le hb hbel.out.size
    refine region_all [(0, true), (1, true), (2, true), (3, true), (4, true), (5, true), (6, false), (7, true)] (fun w' => Below wr.heap.size wr w') (by kernel_rfl) (by kernel_rfl) (fun _ _ d _ _ h => by cases d <;> exact h) (Below.refl _ _).drew ?_
    refine plan_yields ?_ rfl rfl (fun w' hS => ?_) ?_
    rotate_left
    · go_simp
      rfl
    refine plan_yields ?_ rfl rfl (fun w' hS => ?_) ?_
    rotate_left
    · go_simp
      rfl
    refine plan_yields ?_ rfl rfl (fun w' hS => ?_) ?_
    rotate_left
    · go_simp
      rfl
    refine plan_yields ?_ rfl rfl (fun w' hS => ?_) ?_
    rotate_left
    · go_simp
      rfl
    refine plan_yields ?_ rfl rfl (fun w' hS => ?_) ?_
    rotate_left
    · have yy := (hS.cell (p := ⟨b, o + i * 4 + 2, none⟩) hbo).trans y2
      go_simp
      rfl
    refine plan_yields ?_ rfl rfl (fun w' hS => ?_) ?_
    rotate_left
    · go_simp
      rfl
    refine plan_effect rfl rfl (fun K hK => ?_)
    go_simp
    refine (markText (kk + 1 + 1) _ (by omega) (by omega)).mono ?_
    rintro e w1 ⟨rfl, hb0⟩
    have hb1 : Below wr.heap.size wr w1 := ⟨hb0.os, hb0.tape, hb0.output, hb0.size, hb0.block⟩
    refine hK _ _ hb1 ?_
    clear hK K hb0
    refine plan_yields ?_ rfl rfl (fun w' hS => ?_) ?_
    rotate_left
    · go_simp
      rfl
    refine plan_end ?_
    clear hbo
    have hbo : b < wr.heap.size := Nat.lt_of_lt_of_le hb hbel.out.size
    have HCE2 : Aside (∀ t, t < 4 → w1.cell? ⟨b, o + i * 4 + t, none⟩ = [.int .i64 (kk), .int .i64 (kk + 1), .string (mtext (kk + 1 + 1)), .slice A3 x.kids.length c3][t]?) := ⟨fun t ht => (hb1.cell (p := ⟨b, o + i * 4 + t, none⟩) (by simpa using hbo)).trans (HCE.out t ht)⟩
    have HKn3 := Aside.mk (Rec.term.sl.old HK3.out (show Below wr.heap.size wr w1 from hb1))
    have hbel2 := Aside.mk (below_later hbel.out hb1)
    clear y0 y1 y2 y3
    clear HCE hbel hbo hb1 HK3
    have HCE := HCE2
    have hbel := hbel2
    clear HCE2 hbel2
    have HK3 := HKn3
    clear HKn3
    have y0 : w1.cell? ⟨b, o + i * 4, none⟩ = some (.int .i64 (kk)) := HCE.out 0 (by decide)
    have y1 : w1.cell? ⟨b, o + i * 4 + 1, none⟩ = some (.int .i64 (kk + 1)) := HCE.out 1 (by decide)
    have y2 : w1.cell? ⟨b, o + i * 4 + 2, none⟩ = some (.string (mtext (kk + 1 + 1))) := HCE.out 2 (by decide)
    have y3 : w1.cell? ⟨b, o + i * 4 + 3, none⟩ = some (.slice A3 x.kids.length c3) := HCE.out 3 (by decide)
    go_wp2_with fail
    refine (ihx.out (.slice A3 x.kids.length c3) _ (kk + 1 + 1 + 1) _ HK3.out HE3.out (by omega) (by omega)).mono ?_
    rintro e w2 ⟨rfl, hb1⟩
    have hbo : b < w1.heap.size := Nat.lt_of_lt_of_le hb hbel.out.size
    have HCE2 : Aside (∀ t, t < 4 → w2.cell? ⟨b, o + i * 4 + t, none⟩ = [.int .i64 (kk), .int .i64 (kk + 1), .string (mtext (kk + 1 + 1)), .slice A3 x.kids.length c3][t]?) := ⟨fun t ht => (hb1.cell (p := ⟨b, o + i * 4 + t, none⟩) (by simpa using hbo)).trans (HCE.out t ht)⟩
    have HKn3 := Aside.mk (Rec.term.sl.old HK3.out (show Below w1.heap.size w1 w2 from hb1))
    have hbel2 := Aside.mk (below_later hbel.out hb1)
    clear y0 y1 y2 y3
    clear HCE hbel hbo hb1 HK3
    have HCE := HCE2
    have hbel := hbel2
    clear HCE2 hbel2
    have HK3 := HKn3
    clear HKn3
    have y0 : w2.cell? ⟨b, o + i * 4, none⟩ = some (.int .i64 (kk)) := HCE.out 0 (by decide)
    have y1 : w2.cell? ⟨b, o + i * 4 + 1, none⟩ = some (.int .i64 (kk + 1)) := HCE.out 1 (by decide)
    have y2 : w2.cell? ⟨b, o + i * 4 + 2, none⟩ = some (.string (mtext (kk + 1 + 1))) := HCE.out 2 (by decide)
    have y3 : w2.cell? ⟨b, o + i * 4 + 3, none⟩ = some (.slice A3 x.kids.length c3) := HCE.out 3 (by decide)
    go_wp2_with fail
    go_roundw
    case measure => first | (simp [intOf]; done) | (simp [intOf]; omega)
    case rel => exact ⟨i + 1, k3, by omega, by go_num, by first | rfl | (refine congrArg _ ?_; omega), by omega, HR2, hbel⟩
theorem heldTermKids (t : T) : HeldOK 85 Rec.term HeldTermS t.kids := by
  induction t using T.ind with
  | h k n s ts ih => exact heldTermS ts ih
theorem heldTermAll (xs : List T) : HeldOK 85 Rec.term HeldTermS xs := heldTermS xs (fun x _ => heldTermKids x)
def HeldTermV (x : T) (k k' : Int) : Prop := HeldTermS x.kids k k'
theorem HeldTermV.le {x : T} {k k' : Int} (h : HeldTermV x k k') : k ≤ k' := by
  have h3 := h
  unfold HeldTermV at h3
  have g3 := h3.le
  omega
set_option maxRecDepth 100000 in
set_option maxHeartbeats 2000000 in
theorem markTermV (x : T) (cs : List Value) (w : World) (S : Nat → Prop) (k0 : Int) (hr1 : Rec.term.rd True w S x cs) (hS : ∀ b, S b → b < w.heap.size) (h1 : 1 ≤ k0) (h2 : k0 + 8 * Rec.term.wt x ≤ 4611686018427387904) :
    Calls Try.prog 29 #[.agg cs.toArray, .int .i64 k0] w fun e w' => ∃ k y, e = .returned (.int .i64 k) ∧ HeldTermV y k0 k ∧ Rec.term.rd True w' S y cs ∧ But S w w' ∧ k0 ≤ k ∧ k ≤ k0 + 8 * Rec.term.wt x := by
  have hwx := Rec.term_wt x
  obtain ⟨A3, c3, rfl, hk3⟩ := Rec.term_iff.1 hr1
  obtain ⟨m3, hm3⟩ : ∃ m, Rec.term.sl.wt x.kids = m := ⟨_, rfl⟩
  have HM3 := Aside.mk hm3
  obtain ⟨mx, hmx⟩ : ∃ m, Rec.term.wt x = m := ⟨_, rfl⟩
  rw [hmx] at h2 hwx
  have HMX := Aside.mk hmx
  have hmle : m3 ≤ mx := by
    have e3 : Rec.term.sl.wt x.kids = m3 := hm3
    omega
  rw [HMX.out]
  have HS := Aside.mk hS
  have HK3 := Aside.mk hk3
  show Calls Try.prog 29 #[.agg #[.int .i64 x.kind, .int .i64 x.num, .string x.str, .slice A3 x.kids.length c3], .int .i64 k0] w _
  clear hwx hS hmx hm3 hk3
  go_enter Try.func29, Try.ntmps29
  go_wp2_with fail
  refine (markTermAll x.kids (.slice A3 x.kids.length c3) _ S (k0) (Rec.term.sl.but HK3.out (But.below (S := NoB) ((Below.refl _ _).alloc (Nat.le_refl _) _)) (fun c hc => ⟨HS.out c (hc), fun hh => hh.elim⟩)) (fun c hc => by have h1 := HS.out c (hc); simp; omega) (by omega) (by rw [HM3.out]; omega)).mono ?_
  rintro e w1 ⟨k3, z3, rfl, hh3, hl3, hr3, hb1, hle3a, hle3b⟩
  rw [HM3.out] at hle3b
  have BT : Aside (But S w w1) := ⟨((But.below (S := S) ((Below.refl w.heap.size w).alloc (Nat.le_refl _) _)).trans (But.mono hb1 (fun c hc => hc)))⟩
  have KBn := Aside.mk (Blk.but (Blk.new w 26 [.int .i64 x.kind, .int .i64 x.num, .string x.str, .slice A3 x.kids.length c3]) hb1 (fun hh => by have := HS.out _ (hh); omega))
  have KB := KBn
  clear KBn
  have HH3 := Aside.mk hh3
  have HL3 := Aside.mk hl3
  clear HK3
  have HK3 := Aside.mk hr3
  have BTsz : Aside (w.heap.size ≤ w1.heap.size) := ⟨BT.out.size⟩
  clear hh3 hl3 hr3 hb1
  have y1_0 : w1.cell? ⟨w.heap.size, 0, none⟩ = some (.int .i64 x.kind) := KB.out.cell 0
  have y1_1 : w1.cell? ⟨w.heap.size, 1, none⟩ = some (.int .i64 x.num) := KB.out.cell 1
  have y1_2 : w1.cell? ⟨w.heap.size, 2, none⟩ = some (.string x.str) := KB.out.cell 2
  have y1_3 : w1.cell? ⟨w.heap.size, 3, none⟩ = some (.slice A3 x.kids.length c3) := KB.out.cell 3
  go_wp2_with fail
  go_ret
  refine ⟨_, (T.mk x.kind x.num x.str z3), rfl, ?_, ?_, BT.out, by omega, by omega⟩
  · exact HH3.out
  · have r3 := HK3.out
    rw [show x.kids.length = z3.length from HL3.out.symm] at r3
    rw [show x.kids.length = z3.length from HL3.out.symm]
    exact Rec.term_iff.2 ⟨_, _, rfl, r3⟩
set_option maxRecDepth 100000 in
set_option maxHeartbeats 2000000 in
theorem heldTermV (x : T) (cs : List Value) (w : World) (k k' : Int) (hr1 : Rec.term.rd False w (Old w) x cs) (hh : HeldTermV x k k') (h1 : 1 ≤ k) (h2 : k' ≤ 4611686018427387904) :
    Calls Try.prog 64 #[.agg cs.toArray, .int .i64 k] w fun e w' => e = .returned (.int .i64 k') ∧ Below w.heap.size w w' := by
  have h_3 : HeldTermS x.kids k k' := hh
  have g3 := h_3.le
  have HH3 := Aside.mk h_3
  obtain ⟨A3, c3, rfl, hk3⟩ := Rec.term_iff.1 hr1
  have HK3 := Aside.mk hk3
  show Calls Try.prog 64 #[.agg #[.int .i64 x.kind, .int .i64 x.num, .string x.str, .slice A3 x.kids.length c3], .int .i64 k] w _
  clear hh h_3 hk3
  go_enter Try.func64, Try.ntmps64
  go_wp2_with fail
  refine (heldTermAll x.kids (.slice A3 x.kids.length c3) _ (k) _ (Rec.term.sl.old HK3.out (by go_grown)) HH3.out (by omega) (by omega)).mono ?_
  rintro e w1 ⟨rfl, hb1⟩
  have KB := Aside.mk ((Blk.new w 26 [.int .i64 x.kind, .int .i64 x.num, .string x.str, .slice A3 x.kids.length c3]).below hb1)
  have BL : Aside (Below w.heap.size w w1) := ⟨below_later (by go_grown) hb1⟩
  clear hb1
  have y1_0 : w1.cell? ⟨w.heap.size, 0, none⟩ = some (.int .i64 x.kind) := KB.out.cell 0
  have y1_1 : w1.cell? ⟨w.heap.size, 1, none⟩ = some (.int .i64 x.num) := KB.out.cell 1
  have y1_2 : w1.cell? ⟨w.heap.size, 2, none⟩ = some (.string x.str) := KB.out.cell 2
  have y1_3 : w1.cell? ⟨w.heap.size, 3, none⟩ = some (.slice A3 x.kids.length c3) := KB.out.cell 3
  go_wp2_with fail
  go_ret
  exact ⟨rfl, BL.out⟩
end Go.Proofs.Ytdldgchkinflmaa.Lib

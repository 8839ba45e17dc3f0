/- Marks in rows of LinkAct. Conditions: those of each theorem. -/
import Derived.Test.YtdldgchkinflmaaMark
import Derived.Test.YtdldgchkinflmaaGLinkAct
set_option linter.unusedVariables false
namespace Go.Proofs.Ytdldgchkinflmaa.Lib
open Go.RowKit Go.Proofs.Ytdldgchkinflmaa.Plan
inductive HeldLinkActS : List ALinkAct → Int → Int → Prop
  | nil (k : Int) : HeldLinkActS [] k k
  | cons {x : ALinkAct} {xs : List ALinkAct} {k  k' : Int} (h0 : x.1 = k) (h1 : x.2.1 = k + 1) (h2 : x.2.2 = mtext (k + 1 + 1)) (hr : HeldLinkActS xs (k + 1 + 1 + 1) k') : HeldLinkActS (x :: xs) k k'
theorem HeldLinkActS.app {l : List ALinkAct} {m : List ALinkAct} {k k1 k2 : Int} (h : HeldLinkActS l k k1) (g : HeldLinkActS m k1 k2) : HeldLinkActS (l ++ m) k k2 := by
  induction h with
  | nil k => exact g
  | cons h0 h1 h2 hr ih => exact .cons h0 h1 h2 (ih g)
theorem HeldLinkActS.le {l : List ALinkAct} {k k' : Int} (h : HeldLinkActS l k k') : k ≤ k' := by
  induction h with
  | nil k => exact Int.le_refl _
  | cons h0 h1 h2 hr ih =>
    omega
theorem HeldLinkActS.inv {x : ALinkAct} {xs : List ALinkAct} {k k' : Int} (h : HeldLinkActS (x :: xs) k k') : x.1 = k ∧ x.2.1 = k + 1 ∧ x.2.2 = mtext (k + 1 + 1) ∧ HeldLinkActS xs (k + 1 + 1 + 1) k' := by
  cases h with
  | cons h0 h1 h2 hr => exact ⟨h0, h1, h2, hr⟩
theorem HeldLinkActS.len {l : List ALinkAct} {k k' : Int} (h : HeldLinkActS l k k') : k + l.length ≤ k' := by
  induction h with
  | nil k => simp
  | cons h0 h1 h2 hr ih =>
    rw [List.length_cons]; omega
set_option maxRecDepth 100000 in
set_option maxHeartbeats 2000000 in
theorem markLinkActS (xs : List ALinkAct) : MarkOK 50 RLinkAct HeldLinkActS xs := by
  intro v w S k0 h hS h1 h2
  obtain ⟨ao, cap, he, hcap, hao⟩ := h
  injection he with he _
  subst he
  have hsum : RLinkAct.sl.wt xs = xs.length + wts RLinkAct xs xs.length := by rw [wts_all]; rfl
  have HS := Aside.mk hS
  have HCAP := Aside.mk hcap
  rcases hao with rfl | ⟨b, o, rfl, hrow⟩
  · have hsum0 : RLinkAct.sl.wt ([] : List ALinkAct) = 0 := rfl
    clear hS
    show Calls Try.prog 50 #[.slice ao 0 cap, .int .i64 k0] w _
    go_enter Try.func50, Try.ntmps50
    go_wp2_with fail
    go_loopw [1, 5] (fun kv iv wr => iv = .int .i64 0 ∧ kv = .int .i64 k0 ∧ Aside (wr = w)) (fun _ _ _ => 0)
    case atStart => exact ⟨rfl, rfl, ⟨rfl⟩⟩
    case round =>
      obtain ⟨rfl, rfl, hw⟩ := hrel
      go_wp2_with fail
      go_ret
      obtain rfl := hw.out
      exact ⟨k0, [], rfl, .nil _, rfl, ⟨ao, cap, rfl, HCAP.out, Or.inl rfl⟩, But.refl _ _, Int.le_refl _, by rw [hsum0]; omega⟩
  generalize hNN : RLinkAct.sl.wt xs = NN at hsum h2
  have HNN := Aside.mk hNN
  obtain ⟨n, hln⟩ : ∃ n, n = xs.length := ⟨_, rfl⟩
  have HL := Aside.mk hln
  have HM := Aside.mk (fun k (hk : k ≤ xs.length) => show wts RLinkAct xs k ≤ wts RLinkAct xs xs.length by rw [wts_all]; exact wts_le _ _ _)
  rw [← hln] at hsum hcap HM HCAP ⊢
  generalize hW : wts RLinkAct xs n = W at hsum HM
  have HW := Aside.mk hW
  have hn1 : n ≤ 4611686018427387904 := by omega
  have M0 : Aside (MarkedTo RLinkAct HeldLinkActS xs xs w w S b o k0 k0 0) := ⟨MarkedTo.start hrow (.nil _)⟩
  have HB : Aside (S b) := ⟨hrow.1⟩
  have h00 := Aside.mk (wts_zero RLinkAct xs)
  clear hNN hln hW hrow hS
  go_enter Try.func50, Try.ntmps50
  go_wp2_with fail
  go_loopw [1, 5] (fun kv iv wr => ∃ (i : Nat) (kk : Int) (q : Nat) (ys : List ALinkAct), i ≤ n ∧ iv = .int .i64 i ∧ kv = .int .i64 kk ∧ k0 ≤ kk ∧ Aside (q = wts RLinkAct xs i) ∧ kk ≤ k0 + 8 * (i + q) ∧ Aside (MarkedTo RLinkAct HeldLinkActS xs ys w wr S b o k0 kk i)) (fun _ iv _ => n - (intOf iv).toNat)
  case atStart => exact ⟨0, k0, 0, xs, Nat.zero_le _, rfl, rfl, Int.le_refl _, ⟨h00.out.symm⟩, by omega, M0⟩
  case round =>
    obtain ⟨i, kk, q, ys, hi, rfl, rfl, hk0, hq, hkk, hm⟩ := hrel
    clear M0
    have hqW : q ≤ W := by rw [hq.out]; exact HM.out i hi
    by_cases hlt : i < n
    rotate_left
    · obtain rfl : i = n := by omega
      go_wp2_with fail
      go_ret
      exact MarkedTo.done HL.out HCAP.out hk0 (by first | omega | (rw [HNN.out]; omega)) hm.out
    have hlt2 : i < xs.length := by rw [← HL.out]; exact hlt
    have hstep : Aside (wts RLinkAct xs (i + 1) = q + RLinkAct.wt xs[i]) := ⟨by rw [hq.out]; exact wts_succ _ _ _ hlt2⟩
    have hle : wts RLinkAct xs (i + 1) ≤ W := HM.out (i + 1) hlt
    rw [hstep.out] at hle
    have HMM := hm
    obtain ⟨hlen, hrow, hheld, hrest, hbut⟩ := hm.out
    obtain ⟨F, cs, hF, hr1, hc1, hfz, hback⟩ := hrow.focus i (by omega)
    have hyx : ys[i]'(by omega) = xs[i] := by
      have := hrest i (Nat.le_refl _)
      rw [List.getElem?_eq_getElem (by omega), List.getElem?_eq_getElem (by omega)] at this
      exact Option.some.inj this
    rw [hyx] at hr1
    obtain ⟨x, hx⟩ : ∃ x, x = xs[i] := ⟨_, rfl⟩
    rw [← hx] at hr1 hle
    have HX := Aside.mk hx
    obtain ⟨_, _, Sa0, Sb0, rfl, p0, q0, i0, j0, d0⟩ := hr1
    obtain ⟨_, _, Sa1, Sb1, rfl, p1, q1, i1, j1, d1⟩ := q0
    obtain rfl := p0
    obtain rfl := p1
    obtain rfl := q1
    obtain ⟨mx, hmx⟩ : ∃ m, RLinkAct.wt x = m := ⟨_, rfl⟩
    have HMX := Aside.mk hmx
    rw [hmx] at hle
    have hblt : b < wr.heap.size := Nat.lt_of_lt_of_le (HS.out b HB.out) hbut.size
    have HF := Aside.mk hF
    have HBK := Aside.mk hback
    have HFZ := Aside.mk hfz
    have HSW : Aside (∀ c, S c → c < wr.heap.size) := ⟨fun c hc => Nat.lt_of_lt_of_le (HS.out c hc) hbut.size⟩
    have HC : Aside (Cells wr b (o + i * 3) [.int .i64 x.1, .int .i64 x.2.1, .string x.2.2]) := ⟨hc1⟩
    have HO : Aside (Only b (o + i * 3) (o + i * 3 + 3) F wr wr) := ⟨Only.refl _ _ _ _ _⟩
    clear hback hc1 hF hfz hrow hheld hrest hbut hyx hx hlen hmx
    have Z0 := Aside.mk (And.intro i0 (And.intro j0 d0))
    clear i0 j0 d0
    have Z1 := Aside.mk (And.intro i1 (And.intro j1 d1))
    clear i1 j1 d1
    have hbw : b < wr.heap.size := hblt
    have y0 : wr.cell? ⟨b, o + i * 3, none⟩ = some (.int .i64 x.1) := HC.out.at 0 (by simp)
    have z0 : wr.frozen? ⟨b, o + i * 3, none⟩ = false := (HO.out.froz _).trans (HFZ.out _)
    have y1 : wr.cell? ⟨b, o + i * 3 + 1, none⟩ = some (.int .i64 x.2.1) := HC.out.at 1 (by simp)
    have z1 : wr.frozen? ⟨b, o + i * 3 + 1, none⟩ = false := (HO.out.froz _).trans (HFZ.out _)
    have y2 : wr.cell? ⟨b, o + i * 3 + 2, none⟩ = some (.string x.2.2) := HC.out.at 2 (by simp)
    have z2 : wr.frozen? ⟨b, o + i * 3 + 2, none⟩ = false := (HO.out.froz _).trans (HFZ.out _)
    go_wp2_with fail
    with_reducible refine (markText (kk + 1 + 1) _ (by omega) (by omega)).mono ?_
    rintro e w1 ⟨rfl, hb1⟩
    have hstep2 : But (fun c => c = b ∨ (NoB) c) wr w1 := (((But.refl (fun c => c = b ∨ (NoB) c) wr).set (p := ⟨b, o + i * 3 + 0, none⟩) (Or.inl rfl) (.int .i64 (kk))).set (p := ⟨b, o + i * 3 + 1, none⟩) (Or.inl rfl) (.int .i64 (kk + 1))).trans (But.mono (But.below (S := NoB) hb1) (fun c hc => Or.inr hc))
    have HC2 : Aside (Cells w1 b (o + i * 3) [.int .i64 (kk), .int .i64 (kk + 1), .string x.2.2]) := ⟨((HC.out.set 0 (.int .i64 (kk))).set 1 (.int .i64 (kk + 1))).call (But.below (S := NoB) hb1) (fun hh => hh) (by simpa using hbw)⟩
    have HO2 : Aside (Only b (o + i * 3) (o + i * 3 + 3) F wr w1) := ⟨((HO.out.set (j := o + i * 3 + 0) ⟨by omega, by omega⟩ (.int .i64 (kk))).set (j := o + i * 3 + 1) ⟨by omega, by omega⟩ (.int .i64 (kk + 1))).call (But.below (S := NoB) hb1) (fun c hc => hc.elim) (fun hh => (HF.out b hh).2 rfl) (by simpa using hbw)⟩
    clear hbw y0 z0 y1 z1 y2 z2
    clear HC HO hstep2 
    have HC := HC2
    have HO := HO2
    clear HC2 HO2
    clear hb1
    have hbw : b < w1.heap.size := Nat.lt_of_lt_of_le hblt HO.out.but.size
    have y0 : w1.cell? ⟨b, o + i * 3, none⟩ = some (.int .i64 (kk)) := HC.out.at 0 (by simp)
    have z0 : w1.frozen? ⟨b, o + i * 3, none⟩ = false := (HO.out.froz _).trans (HFZ.out _)
    have y1 : w1.cell? ⟨b, o + i * 3 + 1, none⟩ = some (.int .i64 (kk + 1)) := HC.out.at 1 (by simp)
    have z1 : w1.frozen? ⟨b, o + i * 3 + 1, none⟩ = false := (HO.out.froz _).trans (HFZ.out _)
    have y2 : w1.cell? ⟨b, o + i * 3 + 2, none⟩ = some (.string x.2.2) := HC.out.at 2 (by simp)
    have z2 : w1.frozen? ⟨b, o + i * 3 + 2, none⟩ = false := (HO.out.froz _).trans (HFZ.out _)
    go_wp2_with fail
    go_roundw
    case measure => first | (simp [intOf]; done) | (simp [intOf]; omega)
    case rel =>
      refine ⟨i + 1, kk + 1 + 1 + 1, q + mx, ys.set i ((kk), (kk + 1), (mtext (kk + 1 + 1))), by omega, by go_num, by first | rfl | (refine congrArg _ ?_; omega), by omega, ⟨by rw [hstep.out, ← HX.out, HMX.out]⟩, by omega, ⟨HMM.out.next (lo := o + i * 3) (hi := o + i * 3 + 3) (F := F) HeldLinkActS.app ((kk), (kk + 1), (mtext (kk + 1 + 1))) HL.out hlt2 ?hd (HBK.out _ _ [.int .i64 (kk), .int .i64 (kk + 1), .string (mtext (kk + 1 + 1))] ?rd ?cl ?on HSW.out) ?on2 ?bt⟩⟩
      case hd => exact .cons rfl rfl rfl (.nil _)
      case cl =>
        exact (HC.out.set 2 (.string (mtext (kk + 1 + 1))))
      case on => exact (HO.out.set (j := o + i * 3 + 2) ⟨by omega, by omega⟩ (.string (mtext (kk + 1 + 1))))
      case on2 => exact (HO.out.set (j := o + i * 3 + 2) ⟨by omega, by omega⟩ (.string (mtext (kk + 1 + 1))))
      case bt => exact fun c hc => hc.elim (fun e => e ▸ HB.out) (fun h => (HF.out c h).1)
      case rd =>
        exact (Rec.mkpair (Sa := Sa0) (Sb := Sb0) (show Rec.int.rd True _ _ (kk) [.int .i64 (kk)] from rfl) (Rec.mkpair (Sa := Sa1) (Sb := Sb1) (show Rec.int.rd True _ _ (kk + 1) [.int .i64 (kk + 1)] from rfl) (show Rec.str.rd True _ _ (mtext (kk + 1 + 1)) [.string (mtext (kk + 1 + 1))] from rfl) Z1.out) Z0.out)
end Go.Proofs.Ytdldgchkinflmaa.Lib

/- Marks in rows of string. Conditions: those of each theorem. -/
import Derived.Test.YtlopbheahedofaaDoorMark
import Derived.Test.YtlopbheahedofaaDoorGString
set_option linter.unusedVariables false
namespace Go.Proofs.YtlopbheahedofaaDoor.Lib
open Go.RowKit Go.Proofs.YtlopbheahedofaaDoor.Plan
inductive HeldStringS : List ByteArray → Int → Int → Prop
  | nil (k : Int) : HeldStringS [] k k
  | cons {x : ByteArray} {xs : List ByteArray} {k  k' : Int} (h0 : x = mtext (k)) (hr : HeldStringS xs (k + 1) k') : HeldStringS (x :: xs) k k'
theorem HeldStringS.app {l : List ByteArray} {m : List ByteArray} {k k1 k2 : Int} (h : HeldStringS l k k1) (g : HeldStringS m k1 k2) : HeldStringS (l ++ m) k k2 := by
  induction h with
  | nil k => exact g
  | cons h0 hr ih => exact .cons h0 (ih g)
theorem HeldStringS.le {l : List ByteArray} {k k' : Int} (h : HeldStringS l k k') : k ≤ k' := by
  induction h with
  | nil k => exact Int.le_refl _
  | cons h0 hr ih =>
    omega
theorem HeldStringS.inv {x : ByteArray} {xs : List ByteArray} {k k' : Int} (h : HeldStringS (x :: xs) k k') : x = mtext (k) ∧ HeldStringS xs (k + 1) k' := by
  cases h with
  | cons h0 hr => exact ⟨h0, hr⟩
theorem HeldStringS.len {l : List ByteArray} {k k' : Int} (h : HeldStringS l k k') : k + l.length ≤ k' := by
  induction h with
  | nil k => simp
  | cons h0 hr ih =>
    rw [List.length_cons]; omega
set_option maxRecDepth 100000 in
set_option maxHeartbeats 2000000 in
theorem markStringS (xs : List ByteArray) : MarkOK 17 Rec.str HeldStringS xs := by
  intro v w S k0 h hS h1 h2
  obtain ⟨ao, cap, he, hcap, hao⟩ := h
  injection he with he _
  subst he
  have hsum : Rec.str.sl.wt xs = xs.length + wts Rec.str xs xs.length := by rw [wts_all]; rfl
  have HS := Aside.mk hS
  have HCAP := Aside.mk hcap
  rcases hao with rfl | ⟨b, o, rfl, hrow⟩
  · have hsum0 : Rec.str.sl.wt ([] : List ByteArray) = 0 := rfl
    clear hS
    show Calls Tryd.prog 17 #[.slice ao 0 cap, .int .i64 k0] w _
    go_enter Tryd.func17, Tryd.ntmps17
    go_wp2_with fail
    go_loopw [1, 5] (fun kv iv wr => iv = .int .i64 0 ∧ kv = .int .i64 k0 ∧ Aside (wr = w)) (fun _ _ _ => 0)
    case atStart => exact ⟨rfl, rfl, ⟨rfl⟩⟩
    case round =>
      obtain ⟨rfl, rfl, hw⟩ := hrel
      go_wp2_with fail
      go_ret
      obtain rfl := hw.out
      exact ⟨k0, [], rfl, .nil _, rfl, ⟨ao, cap, rfl, HCAP.out, Or.inl rfl⟩, But.refl _ _, Int.le_refl _, by rw [hsum0]; omega⟩
  generalize hNN : Rec.str.sl.wt xs = NN at hsum h2
  have HNN := Aside.mk hNN
  obtain ⟨n, hln⟩ : ∃ n, n = xs.length := ⟨_, rfl⟩
  have HL := Aside.mk hln
  have HM := Aside.mk (fun k (hk : k ≤ xs.length) => show wts Rec.str xs k ≤ wts Rec.str xs xs.length by rw [wts_all]; exact wts_le _ _ _)
  rw [← hln] at hsum hcap HM HCAP ⊢
  generalize hW : wts Rec.str xs n = W at hsum HM
  have HW := Aside.mk hW
  have hn1 : n ≤ 4611686018427387904 := by omega
  have M0 : Aside (MarkedTo Rec.str HeldStringS xs xs w w S b o k0 k0 0) := ⟨MarkedTo.start hrow (.nil _)⟩
  have HB : Aside (S b) := ⟨hrow.1⟩
  have h00 := Aside.mk (wts_zero Rec.str xs)
  clear hNN hln hW hrow hS
  go_enter Tryd.func17, Tryd.ntmps17
  go_wp2_with fail
  go_loopw [1, 5] (fun kv iv wr => ∃ (i : Nat) (kk : Int) (q : Nat) (ys : List ByteArray), i ≤ n ∧ iv = .int .i64 i ∧ kv = .int .i64 kk ∧ k0 ≤ kk ∧ Aside (q = wts Rec.str xs i) ∧ kk ≤ k0 + 8 * (i + q) ∧ Aside (MarkedTo Rec.str HeldStringS xs ys w wr S b o k0 kk i)) (fun _ iv _ => n - (intOf iv).toNat)
  case atStart => exact ⟨0, k0, 0, xs, Nat.zero_le _, rfl, rfl, Int.le_refl _, ⟨h00.out.symm⟩, by omega, M0⟩
  case round =>
    obtain ⟨i, kk, q, ys, hi, rfl, rfl, hk0, hq, hkk, hm⟩ := hrel
    clear M0
    have hqW : q ≤ W := by rw [hq.out]; exact HM.out i hi
    by_cases hlt : i < n
    rotate_left
    · obtain rfl : i = n := by omega
      go_wp2_with fail
      go_ret
      exact MarkedTo.done HL.out HCAP.out hk0 (by first | omega | (rw [HNN.out]; omega)) hm.out
    have hlt2 : i < xs.length := by rw [← HL.out]; exact hlt
    have hstep : Aside (wts Rec.str xs (i + 1) = q + Rec.str.wt xs[i]) := ⟨by rw [hq.out]; exact wts_succ _ _ _ hlt2⟩
    have hle : wts Rec.str xs (i + 1) ≤ W := HM.out (i + 1) hlt
    rw [hstep.out] at hle
    have HMM := hm
    obtain ⟨hlen, hrow, hheld, hrest, hbut⟩ := hm.out
    obtain ⟨F, cs, hF, hr1, hc1, hfz, hback⟩ := hrow.focus i (by omega)
    have hyx : ys[i]'(by omega) = xs[i] := by
      have := hrest i (Nat.le_refl _)
      rw [List.getElem?_eq_getElem (by omega), List.getElem?_eq_getElem (by omega)] at this
      exact Option.some.inj this
    rw [hyx] at hr1
    obtain ⟨x, hx⟩ : ∃ x, x = xs[i] := ⟨_, rfl⟩
    rw [← hx] at hr1 hle
    have HX := Aside.mk hx
    obtain rfl := hr1
    obtain ⟨mx, hmx⟩ : ∃ m, Rec.str.wt x = m := ⟨_, rfl⟩
    have HMX := Aside.mk hmx
    rw [hmx] at hle
    have hblt : b < wr.heap.size := Nat.lt_of_lt_of_le (HS.out b HB.out) hbut.size
    have HF := Aside.mk hF
    have HBK := Aside.mk hback
    have HFZ := Aside.mk hfz
    have HSW : Aside (∀ c, S c → c < wr.heap.size) := ⟨fun c hc => Nat.lt_of_lt_of_le (HS.out c hc) hbut.size⟩
    have HC : Aside (Cells wr b (o + i * 1) [.string x]) := ⟨hc1⟩
    have HO : Aside (Only b (o + i * 1) (o + i * 1 + 1) F wr wr) := ⟨Only.refl _ _ _ _ _⟩
    clear hback hc1 hF hfz hrow hheld hrest hbut hyx hx hlen hmx
    have hbw : b < wr.heap.size := hblt
    have y0 : wr.cell? ⟨b, o + i, none⟩ = some (.string x) := by have h : wr.cell? ⟨b, o + i * 1, none⟩ = some (.string x) := HC.out.at 0 (by simp); rwa [Nat.mul_one] at h
    have z0 : wr.frozen? ⟨b, o + i, none⟩ = false := (HO.out.froz _).trans (HFZ.out _)
    go_wp2_with fail
    with_reducible refine (markText (kk) _ (by omega) (by omega)).mono ?_
    rintro e w1 ⟨rfl, hb1⟩
    have hstep2 : But (fun c => c = b ∨ (NoB) c) wr w1 := (But.refl (fun c => c = b ∨ (NoB) c) wr).trans (But.mono (But.below (S := NoB) hb1) (fun c hc => Or.inr hc))
    have HC2 : Aside (Cells w1 b (o + i * 1) [.string x]) := ⟨HC.out.call (But.below (S := NoB) hb1) (fun hh => hh) (by simpa using hbw)⟩
    have HO2 : Aside (Only b (o + i * 1) (o + i * 1 + 1) F wr w1) := ⟨HO.out.call (But.below (S := NoB) hb1) (fun c hc => hc.elim) (fun hh => (HF.out b hh).2 rfl) (by simpa using hbw)⟩
    clear hbw y0 z0
    clear HC HO hstep2 
    have HC := HC2
    have HO := HO2
    clear HC2 HO2
    clear hb1
    have hbw : b < w1.heap.size := Nat.lt_of_lt_of_le hblt HO.out.but.size
    have y0 : w1.cell? ⟨b, o + i, none⟩ = some (.string x) := by have h : w1.cell? ⟨b, o + i * 1, none⟩ = some (.string x) := HC.out.at 0 (by simp); rwa [Nat.mul_one] at h
    have z0 : w1.frozen? ⟨b, o + i, none⟩ = false := (HO.out.froz _).trans (HFZ.out _)
    go_wp2_with fail
    go_roundw
    case measure => first | (simp [intOf]; done) | (simp [intOf]; omega)
    case rel =>
      refine ⟨i + 1, kk + 1, q + mx, ys.set i (mtext (kk)), by omega, by go_num, by first | rfl | (refine congrArg _ ?_; omega), by omega, ⟨by rw [hstep.out, ← HX.out, HMX.out]⟩, by omega, ⟨HMM.out.next (lo := o + i * 1) (hi := o + i * 1 + 1) (F := F) HeldStringS.app (mtext (kk)) HL.out hlt2 ?hd (HBK.out _ _ [.string (mtext (kk))] ?rd ?cl ?on HSW.out) ?on2 ?bt⟩⟩
      case hd => exact .cons rfl (.nil _)
      case cl =>
        (have hh := (HC.out.set 0 (.string (mtext (kk)))); rw [Nat.mul_one] at hh; (try rw [Nat.add_zero] at hh); (try rw [show o + i * Rec.str.k = o + i from by show o + i * 1 = o + i; omega]); (try rw [show o + i * 1 = o + i from by omega]); exact hh)
      case on => (have hh := (HO.out.set (j := o + i * 1 + 0) ⟨by omega, by omega⟩ (.string (mtext (kk)))); rw [Nat.mul_one] at hh; (try rw [Nat.add_zero] at hh); (try rw [show o + i * Rec.str.k = o + i from by show o + i * 1 = o + i; omega]); (try rw [show o + i * 1 = o + i from by omega]); exact hh)
      case on2 => (have hh := (HO.out.set (j := o + i * 1 + 0) ⟨by omega, by omega⟩ (.string (mtext (kk)))); rw [Nat.mul_one] at hh; (try rw [Nat.add_zero] at hh); (try rw [show o + i * Rec.str.k = o + i from by show o + i * 1 = o + i; omega]); (try rw [show o + i * 1 = o + i from by omega]); exact hh)
      case bt => exact fun c hc => hc.elim (fun e => e ▸ HB.out) (fun h => (HF.out c h).1)
      case rd =>
        rfl
set_option maxRecDepth 100000 in
set_option maxHeartbeats 2000000 in
theorem heldStringS (xs : List ByteArray) : HeldOK 18 Rec.str HeldStringS xs := by
  intro v w k0 k' h hh h1 h2
  obtain ⟨ao, cap, he, hcap, hao⟩ := h
  injection he with he _
  subst he
  have HA := Aside.mk hao
  obtain ⟨n, hln⟩ : ∃ n, n = xs.length := ⟨_, rfl⟩
  have HL := Aside.mk hln
  have hn1 : (n : Int) ≤ k' := by have := HeldStringS.len hh; omega
  rw [← hln] at hcap ⊢
  have H0 : Aside (HeldStringS (xs.drop 0) k0 k') := ⟨hh⟩
  clear hao hln hh
  go_enter Tryd.func18, Tryd.ntmps18
  go_wp2_with fail
  go_loopw [1, 5] (fun kv iv wr => ∃ (i : Nat) (kk : Int), i ≤ n ∧ iv = .int .i64 i ∧ kv = .int .i64 kk ∧ 1 ≤ kk ∧ Aside (HeldStringS (xs.drop i) kk k') ∧ Aside (Below w.heap.size w wr)) (fun _ iv _ => n - (intOf iv).toNat)
  case atStart => exact ⟨0, k0, Nat.zero_le _, rfl, rfl, h1, H0, ⟨Below.refl _ _⟩⟩
  case round =>
    obtain ⟨i, kk, hi, rfl, rfl, hk1, hd, hbel⟩ := hrel
    clear H0
    by_cases hlt : i < n
    rotate_left
    · obtain rfl : i = n := by omega
      have hend : kk = k' := by
        have hd2 := hd.out
        rw [List.drop_eq_nil_of_le (by rw [HL.out]; exact Nat.le_refl _)] at hd2
        cases hd2; rfl
      subst hend
      go_wp2_with fail
      go_ret
      exact ⟨rfl, hbel.out⟩
    have hlt2 : i < xs.length := by rw [← HL.out]; exact hlt
    have hd2 := hd.out
    rw [List.drop_eq_getElem_cons hlt2] at hd2
    rcases HA.out with h0 | ⟨b, o, rfl, hb, f, hf, -, hrow⟩
    · exfalso; rw [h0] at hlt2; exact absurd hlt2 (Nat.not_lt_zero _)
    obtain ⟨cs, hr1, hc⟩ := hrow i hlt2
    have hr1 := Rec.str.up (w1 := wr) (Rec.str.mono hr1 (fun c hc => (hf i c hc).1)) (fun _ h => h) hbel.out
    obtain ⟨x, hx⟩ : ∃ x, x = xs[i] := ⟨_, rfl⟩
    rw [← hx] at hr1 hd2
    obtain ⟨e0, hrest⟩ := HeldStringS.inv hd2
    obtain rfl := hr1
    have hcell : ∀ t, t < 1 → wr.cell? ⟨b, o + i * 1 + t, none⟩ = [.string (mtext (kk))][t]? := by
      intro t ht
      have h3 := (hbel.out.cell (p := ⟨b, o + i * 1 + t, none⟩) hb).trans (hc t ht)
      rw [show x = _ from e0] at h3
      exact h3
    have hrl := hrest.le
    have HR2 := Aside.mk hrest
    have HCE := Aside.mk hcell
    clear hd2 hd hrow hf hc hr1 hrest hcell hx e0
    have y0 : wr.cell? ⟨b, o + i, none⟩ = some (.string (mtext (kk))) := by have h : wr.cell? ⟨b, o + i * 1, none⟩ = some (.string (mtext (kk))) := HCE.out 0 (by decide); rwa [Nat.mul_one] at h
    go_wp2_with fail
    have hbo : b < wr.heap.size := Nat.lt_of_lt_of_le hb hbel.out.size
    refine region_all [(0, true), (1, true), (2, true), (3, true), (4, true), (5, false), (6, true)] (fun w' => Below wr.heap.size wr w') (by kernel_rfl) (by kernel_rfl) (fun _ _ d _ _ h => by cases d <;> exact h) (Below.refl _ _).drew ?_
    refine plan_yields ?_ rfl rfl (fun w' hS => ?_) ?_
    rotate_left
    · go_simp
      rfl
    refine plan_yields ?_ rfl rfl (fun w' hS => ?_) ?_
    rotate_left
    · go_simp
      rfl
    refine plan_yields ?_ rfl rfl (fun w' hS => ?_) ?_
    rotate_left
    · go_simp
      rfl
    refine plan_yields ?_ rfl rfl (fun w' hS => ?_) ?_
    rotate_left
    · have yy := (hS.cell (p := ⟨b, o + i, none⟩) hbo).trans y0
      go_simp
      rfl
    refine plan_yields ?_ rfl rfl (fun w' hS => ?_) ?_
    rotate_left
    · go_simp
      rfl
    refine plan_effect rfl rfl (fun K hK => ?_)
    go_simp
    refine (markText (kk) _ (by omega) (by omega)).mono ?_
    rintro e w1 ⟨rfl, hb0⟩
    have hb1 : Below wr.heap.size wr w1 := ⟨hb0.os, hb0.tape, hb0.output, hb0.size, hb0.block⟩
    refine hK _ _ hb1 ?_
    clear hK K hb0
    refine plan_yields ?_ rfl rfl (fun w' hS => ?_) ?_
    rotate_left
    · go_simp
      rfl
    refine plan_end ?_
    clear hbo
    have hbo : b < wr.heap.size := Nat.lt_of_lt_of_le hb hbel.out.size
    have HCE2 : Aside (∀ t, t < 1 → w1.cell? ⟨b, o + i * 1 + t, none⟩ = [.string (mtext (kk))][t]?) := ⟨fun t ht => (hb1.cell (p := ⟨b, o + i * 1 + t, none⟩) (by simpa using hbo)).trans (HCE.out t ht)⟩
    have hbel2 := Aside.mk (below_later hbel.out hb1)
    clear y0
    clear HCE hbel hbo hb1 
    have HCE := HCE2
    have hbel := hbel2
    clear HCE2 hbel2
    have y0 : w1.cell? ⟨b, o + i, none⟩ = some (.string (mtext (kk))) := by have h : w1.cell? ⟨b, o + i * 1, none⟩ = some (.string (mtext (kk))) := HCE.out 0 (by decide); rwa [Nat.mul_one] at h
    go_wp2_with fail
    go_roundw
    case measure => first | (simp [intOf]; done) | (simp [intOf]; omega)
    case rel => exact ⟨i + 1, kk + 1, by omega, by go_num, by first | rfl | (refine congrArg _ ?_; omega), by omega, HR2, hbel⟩
end Go.Proofs.YtlopbheahedofaaDoor.Lib

/- Walk of the program's hash.term. Conditions: those of each theorem. -/
import Derived.Test.YtdcmoilajplfdaaHash1
set_option linter.unusedVariables false
namespace Go.Proofs.Ytdcmoilajplfdaa.Fn
open Go.RowKit Go.Proofs.Ytdcmoilajplfdaa.Lib Go.Proofs.Ytdcmoilajplfdaa.Plan

theorem and63 (n : Int) (h0 : -9223372036854775808 ≤ n) (h1 : n ≤ 9223372036854775807) : bits .and .i64 n 9223372036854775807 = nn n := by
  show IntKind.i64.wrap ((BitVec.ofInt 64 n &&& BitVec.ofInt 64 9223372036854775807).toNat : Int) = _
  rw [BitVec.toNat_and, show (BitVec.ofInt 64 9223372036854775807).toNat = 2 ^ 63 - 1 by decide, Nat.and_two_pow_sub_one_eq_mod, BitVec.toNat_ofInt, IntKind.wrap_i64]
  unfold nn
  split <;> omega
theorem conv_one {w : World} {g : Nat} {k : Int} (h : Blk w g 5 [.int .u8 k]) (h0 : 0 ≤ k) (h1 : k ≤ 255) : (convert 46 9 (.slice (some ⟨g, 0, none⟩) 1 1)).run Try.prog w = .ok (.string (bes 1 k)) w := by
  have := run_convert_bytes_arg w 46 5 Try.underlying46 Try.underlying5 g 0 1 1 [k] rfl (fun i hi => by
    obtain rfl : i = 0 := by omega
    exact h.cell 0) 9 Try.underlying9
  rw [this, bes, be, be, Int.emod_eq_of_lt h0 (by omega)]
  rfl
set_option maxRecDepth 100000 in
set_option maxHeartbeats 8000000 in
theorem hashTerm (t : T) : ∀ (h : Int) (cs : List Value) (w : World), Rec.term.rd False w (Old w) t cs → Rec.term.wt t ≤ 1048576 → t.right = true → 0 ≤ h → h < 4294967296 →
    Calls Try.prog 66 #[.int .u32 h, .agg cs.toArray] w fun e w' => e = .returned (.int .u32 (t.hashf h)) ∧ Below w.heap.size w w' := by
  induction t using T.ind with
  | h k n s ts ih =>
  intro h cs w hrd hta hright g0 g1
  obtain ⟨A1, c1, rfl, h1⟩ := Rec.term_iff.1 hrd
  change Rec.term.sl.rd False w (Old w) ts [.slice A1 ts.length c1] at h1
  have WT := wt_sl _ _ _ _ _ hta
  have hs := wt_s _ _ _ _ _ hta
  have HIH := Aside.mk ih
  have HW := Aside.mk (wt_kid WT)
  have L1 := wt_len WT
  obtain ⟨o1, r1, -⟩ := right_parts hright
  obtain ⟨n1, n2⟩ := own_num o1
  have kb : 1 ≤ k ∧ k ≤ 9 := by have := own_kind o1; omega
  obtain ⟨kb1, kb2⟩ := kb
  have HRT := Aside.mk (fun (j : Nat) (hj : j < ts.length) => r1 ts[j] (List.getElem_mem hj))
  obtain ⟨_, _, he, hcap, h1⟩ := h1
  injection he with he _
  injection he with e1 e2 e3
  subst e1 e3
  have HA := Aside.mk h1
  obtain ⟨res, hres⟩ : ∃ r, r = (T.mk k n s ts).hashf h := ⟨_, rfl⟩
  rw [← hres]
  rw [T.hashf_eq] at hres
  obtain ⟨m, hln⟩ : ∃ m, m = ts.length := ⟨_, rfl⟩
  have hln2 : ts.length = m := hln.symm
  rw [hln2] at hres
  have HV := Aside.mk hres
  have HN := Aside.mk hln
  have hz := headT_size k n s m
  obtain ⟨y0, y1⟩ := hfold_range (headT k n s m).data.toList h g0 g1
  have HY : Aside (hfold h (headT k n s m).data.toList = hashTo ts 0 (hfold h (headT k n s m).data.toList)) := ⟨rfl⟩
  show Calls Try.prog 66 #[.int .u32 h, .agg #[.int .i64 k, .int .i64 n, .string s, .slice A1 ts.length c1]] w _
  rw [hln2] at L1 hcap ⊢
  clear ih h1 hrd hta hres hln hln2 WT o1 r1 hright
  have K0 := Aside.mk (Blk.new w 29 [.int .i64 k, .int .i64 n, .string s, .slice A1 m c1])
  have B0 : Aside (Below w.heap.size w (w.alloc (.cells #[.int .i64 k, .int .i64 n, .string s, .slice A1 m c1] 29))) := ⟨by go_grown⟩
  have hadd1 : ∀ (v : Int) (wx : World), (Op.stringOp .add (bes 1 k) (bes 8 v)).run Try.prog wx = .ok (.string (bes 1 k ++ bes 8 v)) wx := fun v wx => run_string_add_sum (w := wx) _ _ (by rw [bes_size, bes_size]; omega)
  have hadd2 : ∀ (v : Int) (wx : World), (Op.stringOp .add (bes 1 k ++ bes 8 v) (bes 2 s.size)).run Try.prog wx = .ok (.string ((bes 1 k ++ bes 8 v) ++ bes 2 s.size)) wx := fun v wx => run_string_add_sum (w := wx) _ _ (by simp only [ByteArray.size_append, bes_size]; omega)
  have hadd3 : ∀ (v : Int) (wx : World), (Op.stringOp .add ((bes 1 k ++ bes 8 v) ++ bes 2 s.size) s).run Try.prog wx = .ok (.string (((bes 1 k ++ bes 8 v) ++ bes 2 s.size) ++ s)) wx := fun v wx => run_string_add_sum (w := wx) _ _ (by simp only [ByteArray.size_append, bes_size]; omega)
  have hadd4 : ∀ (v : Int) (wx : World), (Op.stringOp .add (((bes 1 k ++ bes 8 v) ++ bes 2 s.size) ++ s) (bes 2 m)).run Try.prog wx = .ok (.string ((((bes 1 k ++ bes 8 v) ++ bes 2 s.size) ++ s) ++ bes 2 m)) wx := fun v wx => run_string_add_sum (w := wx) _ _ (by simp only [ByteArray.size_append, bes_size]; omega)
  have hand := and63 n (by omega) (by omega)
  have hk8 : IntKind.u8.wrap k = k := IntWalk.u8_in k ⟨by omega, by omega⟩
  have q1 : (0 : Int) ≤ nn n := by unfold nn; split <;> omega
  have q2 : nn n ≤ 9223372036854775807 := by unfold nn; split <;> omega
  go_enter Try.func66, Try.ntmps66
  go_wp2_with fail
  refine region_tree (.yes 0 (.yes 1 (.yes 2 (.yes 3 (.yes 6 (.yes 7 (.yes 8 (.yes 11 (.yes 12 (.yes 13 (.yes 16 (.yes 17 (.yes 19 (.yes 20 (.yes 21 (.fork 4 9 (.yes 5 (.eff 9 (.yes 10 (.eff 14 (.yes 15 (.yes 18 (.eff 22 (.yes 23 (.eff 24 (.yes 25 .nil)))))))))) (.fork 4 14 (.yes 5 (.yes 10 (.eff 14 (.yes 15 (.yes 18 (.eff 22 (.yes 23 (.eff 24 (.yes 25 .nil))))))))) (.fork 4 22 (.yes 5 (.yes 10 (.yes 15 (.yes 18 (.eff 22 (.yes 23 (.eff 24 (.yes 25 .nil)))))))) (.eff 4 (.yes 5 (.yes 10 (.yes 15 (.yes 18 (.yes 23 (.eff 24 (.yes 25 .nil)))))))))))))))))))))))))) (fun w' => Blk w' w.heap.size 29 [.int .i64 k, .int .i64 n, .string s, .slice A1 m c1]) (by kernel_rfl) (by kernel_rfl) (fun _ _ d _ _ h => by cases d <;> exact h) K0.out.drew ?_
  refine tree_yields ?_ rfl rfl (fun w' hS => ?_) ?_
  rotate_left
  · go_simp
    rfl
  refine tree_yields ?_ rfl rfl (fun w' hS => ?_) ?_
  rotate_left
  · go_simp
    rfl
  refine tree_yields ?_ rfl rfl (fun w' hS => ?_) ?_
  rotate_left
  · have c1 := hS.cell 0
    go_simp
    rfl
  refine tree_yields ?_ rfl rfl (fun w' hS => ?_) ?_
  rotate_left
  · go_simp
    rfl
  refine tree_yields ?_ rfl rfl (fun w' hS => ?_) ?_
  rotate_left
  · go_simp
    rfl
  refine tree_yields ?_ rfl rfl (fun w' hS => ?_) ?_
  rotate_left
  · have c1 := hS.cell 1
    go_simp
    rfl
  refine tree_yields ?_ rfl rfl (fun w' hS => ?_) ?_
  rotate_left
  · go_simp
    rfl
  refine tree_yields ?_ rfl rfl (fun w' hS => ?_) ?_
  rotate_left
  · go_simp
    rfl
  refine tree_yields ?_ rfl rfl (fun w' hS => ?_) ?_
  rotate_left
  · have c1 := hS.cell 2
    go_simp
    rfl
  refine tree_yields ?_ rfl rfl (fun w' hS => ?_) ?_
  rotate_left
  · go_simp
    rfl
  refine tree_yields ?_ rfl rfl (fun w' hS => ?_) ?_
  rotate_left
  · go_simp
    rfl
  refine tree_yields ?_ rfl rfl (fun w' hS => ?_) ?_
  rotate_left
  · have c1 := hS.cell 2
    go_simp
    rfl
  refine tree_yields ?_ rfl rfl (fun w' hS => ?_) ?_
  rotate_left
  · go_simp
    rfl
  refine tree_yields ?_ rfl rfl (fun w' hS => ?_) ?_
  rotate_left
  · have c1 := hS.cell 3
    go_simp
    rfl
  refine tree_yields ?_ rfl rfl (fun w' hS => ?_) ?_
  rotate_left
  · go_simp
    rfl
  have K1 := Aside.mk K0.out.drew
  have B1 := Aside.mk B0.out.drew
  clear K0 B0
  refine ⟨?_, ?_⟩
  · refine tree_op rfl rfl (fun K hK => ?_)
    go_simp
    have KB : Aside (Blk ((w.alloc (.cells #[.int .i64 k, .int .i64 n, .string s, .slice A1 m c1] 29)).drew.alloc (.cells #[.int .u8 k] 5)) (w.heap.size + 1) 5 [.int .u8 k]) := ⟨Blk.made _ 5 [.int .u8 k] (by simp)⟩
    refine hK (fun w' => Blk w' w.heap.size 29 [.int .i64 k, .int .i64 n, .string s, .slice A1 m c1] ∧ Blk w' (w.heap.size + 1) 5 [.int .u8 k]) _ _ (fun _ h => h.1) ⟨K1.out.alloc _, KB.out⟩ ?_
    have K2 := Aside.mk (K1.out.alloc (.cells #[.int .u8 k] 5))
    have B2 := Aside.mk (B1.out.alloc B1.out.size (.cells #[.int .u8 k] 5))
    clear hK K K1 B1
    have K1 := K2
    have B1 := B2
    clear K2 B2
    refine tree_yields ?_ rfl rfl (fun w' hS => ?_) ?_
    rotate_left
    · have c1 := conv_one hS.2 (by omega) (by omega)
      go_simp
      rfl
    refine tree_effect rfl rfl (fun K hK => ?_)
    go_simp
    refine (bytesOf (nn n) 8 _ (by omega) (by omega) (by omega)).mono ?_
    rintro e w1 ⟨rfl, hb⟩
    have K2 := Aside.mk (K1.out.below hb)
    have B2 := Aside.mk (below_later B1.out hb)
    have KB2 := Aside.mk (KB.out.below hb)
    clear KB
    have KB := KB2
    clear KB2
    clear K1 B1 hb
    have K1 := K2
    have B1 := B2
    clear K2 B2
    refine hK (fun w' => Blk w' w.heap.size 29 [.int .i64 k, .int .i64 n, .string s, .slice A1 m c1] ∧ Blk w' (w.heap.size + 1) 5 [.int .u8 k]) _ _ (fun _ h => h) ⟨K1.out, KB.out⟩ ?_
    clear hK K
    refine tree_yields ?_ rfl rfl (fun w' hS => ?_) ?_
    rotate_left
    · go_simp
      rfl
    refine tree_effect rfl rfl (fun K hK => ?_)
    go_simp
    refine (bytesOf (s.size) 2 _ (by omega) (by omega) (by omega)).mono ?_
    rintro e w2 ⟨rfl, hb⟩
    have K2 := Aside.mk (K1.out.below hb)
    have B2 := Aside.mk (below_later B1.out hb)
    have KB2 := Aside.mk (KB.out.below hb)
    clear KB
    have KB := KB2
    clear KB2
    clear K1 B1 hb
    have K1 := K2
    have B1 := B2
    clear K2 B2
    refine hK (fun w' => Blk w' w.heap.size 29 [.int .i64 k, .int .i64 n, .string s, .slice A1 m c1] ∧ Blk w' (w.heap.size + 1) 5 [.int .u8 k]) _ _ (fun _ h => h) ⟨K1.out, KB.out⟩ ?_
    clear hK K
    refine tree_yields ?_ rfl rfl (fun w' hS => ?_) ?_
    rotate_left
    · go_simp
      rfl
    refine tree_yields ?_ rfl rfl (fun w' hS => ?_) ?_
    rotate_left
    · go_simp
      rfl
    refine tree_effect rfl rfl (fun K hK => ?_)
    go_simp
    refine (bytesOf (m) 2 _ (by omega) (by omega) (by omega)).mono ?_
    rintro e w3 ⟨rfl, hb⟩
    have K2 := Aside.mk (K1.out.below hb)
    have B2 := Aside.mk (below_later B1.out hb)
    have KB2 := Aside.mk (KB.out.below hb)
    clear KB
    have KB := KB2
    clear KB2
    clear K1 B1 hb
    have K1 := K2
    have B1 := B2
    clear K2 B2
    refine hK (fun w' => Blk w' w.heap.size 29 [.int .i64 k, .int .i64 n, .string s, .slice A1 m c1] ∧ Blk w' (w.heap.size + 1) 5 [.int .u8 k]) _ _ (fun _ h => h) ⟨K1.out, KB.out⟩ ?_
    clear hK K
    refine tree_yields ?_ rfl rfl (fun w' hS => ?_) ?_
    rotate_left
    · go_simp
      rfl
    refine tree_effect rfl rfl (fun K hK => ?_)
    go_simp
    rw [show (((bes 1 k ++ bes 8 (nn n)) ++ bes 2 s.size) ++ s) ++ bes 2 m = headT k n s m from rfl]
    refine (hashText h (headT k n s m) _ g0 g1 (by rw [hz]; omega)).mono ?_
    rintro e w' ⟨rfl, rfl⟩
    refine hK (fun w' => Blk w' w.heap.size 29 [.int .i64 k, .int .i64 n, .string s, .slice A1 m c1] ∧ Blk w' (w.heap.size + 1) 5 [.int .u8 k]) _ _ (fun _ h => h) ⟨K1.out, KB.out⟩ ?_
    clear hK K
    refine tree_yields ?_ rfl rfl (fun w' hS => ?_) ?_
    rotate_left
    · go_simp
      rfl
    refine tree_end ?_
    clear hadd1 hadd2 hadd3 hadd4 hand hk8 q1 q2
    generalize hfold h (headT k n s m).data.toList = y at y0 y1 HY HV ⊢
    have yy := K1.out.cell 3
    simp only [List.getElem?_cons_zero, List.getElem?_cons_succ] at yy
    go_wp2_with fail
    clear yy
    go_loopw [0, 35] (fun x i wr => ∃ (j : Nat) (q : Int), j ≤ m ∧ i = .int .i64 j ∧ x = .int .u32 q ∧ 0 ≤ q ∧ q < 4294967296 ∧ Aside (q = hashTo ts j y) ∧ Aside (Blk wr w.heap.size 29 [.int .i64 k, .int .i64 n, .string s, .slice A1 m c1]) ∧ Aside (Below w.heap.size w wr)) (fun _ i _ => m - (intOf i).toNat)
    case atStart => exact ⟨0, _, Nat.zero_le _, rfl, rfl, y0, y1, HY, K1, B1⟩
    case round =>
      obtain ⟨j, q, hj, rfl, rfl, q0, q1, hq, hk0, hb0⟩ := hrel
      clear K1 B1 HY y0 y1
      have z3 := hk0.out.cell 3
      simp only [List.getElem?_cons_zero, List.getElem?_cons_succ] at z3
      by_cases hlt : j < m
      · have hlt1 : j < ts.length := by rw [← HN.out]; exact hlt
        rcases HA.out with h0 | ⟨b1, o1, rfl, hb1, f1, hf1, -, hrow1⟩
        · exfalso; rw [h0] at hlt1; exact absurd hlt1 (Nat.not_lt_zero _)
        obtain ⟨cs1, hr1, hc1⟩ := hrow1 j hlt1
        obtain ⟨x0, x1, x2, x3a, x3b, x3c, rfl⟩ := shapeTerm hr1
        have hbel2 := hb0.out
        have d10 : wr.cell? ⟨b1, o1 + j * 4, none⟩ = some (.int .i64 x0) := (hbel2.cell (p := ⟨b1, o1 + j * 4 + 0, none⟩) hb1).trans (hc1 0 (by decide))
        have d11 : wr.cell? ⟨b1, o1 + j * 4 + 1, none⟩ = some (.int .i64 x1) := (hbel2.cell (p := ⟨b1, o1 + j * 4 + 1, none⟩) hb1).trans (hc1 1 (by decide))
        have d12 : wr.cell? ⟨b1, o1 + j * 4 + 2, none⟩ = some (.string x2) := (hbel2.cell (p := ⟨b1, o1 + j * 4 + 2, none⟩) hb1).trans (hc1 2 (by decide))
        have d13 : wr.cell? ⟨b1, o1 + j * 4 + 3, none⟩ = some (.slice x3a x3b x3c) := (hbel2.cell (p := ⟨b1, o1 + j * 4 + 3, none⟩) hb1).trans (hc1 3 (by decide))
        have HR1 := Aside.mk (Rec.term.up (Rec.term.mono hr1 (fun c hc => (hf1 j c hc).1)) (fun _ h => h) (hbel2.alloc hbel2.size (.cells #[.int .i64 x0, .int .i64 x1, .string x2, .slice x3a x3b x3c] 29)))
        have W1 := HW.out j hlt1
        have hst := Aside.mk (hashTo_succ ts j y hlt1)
        have hrr := HRT.out j hlt1
        obtain ⟨u0, u1⟩ := hashf_range ts[j] q q0 q1
        clear hc1 hrow1 hf1 hr1 hbel2
        go_wp2_with fail
        refine (HIH.out ts[j] (List.getElem_mem hlt1) q [.int .i64 x0, .int .i64 x1, .string x2, .slice x3a x3b x3c] _ HR1.out W1 hrr q0 q1).mono ?_
        rintro e w2 ⟨rfl, hb2⟩
        have hk2 := Aside.mk ((hk0.out.alloc (.cells #[.int .i64 x0, .int .i64 x1, .string x2, .slice x3a x3b x3c] 29)).below hb2)
        have hb3 := Aside.mk (below_later (hb0.out.alloc hb0.out.size (.cells #[.int .i64 x0, .int .i64 x1, .string x2, .slice x3a x3b x3c] 29)) hb2)
        have hq2 : Aside (ts[j].hashf q = hashTo ts (j + 1) y) := ⟨by rw [hst.out, ← hq.out]⟩
        clear d10 d11 d12 d13 HR1 hb2 hk0 hb0 z3 hst hq W1 hrr
        generalize ts[j].hashf q = q2 at u0 u1 hq2 ⊢
        go_wp2_with fail
        go_roundw
        case rel => exact ⟨j + 1, q2, by omega, by go_num, rfl, u0, u1, hq2, hk2, hb3⟩
        case measure => first | (simp [intOf]; done) | (simp [intOf]; omega)
      · obtain rfl : j = m := by omega
        have E : Aside (res = q) := ⟨by rw [HV.out, hq.out, HN.out]⟩
        go_wp2_with fail
        go_ret
        exact ⟨ret_int E.out.symm, hb0.out⟩

  · refine tree_op rfl rfl (fun K hK => ?_)
    go_simp
    refine (bytesOf (nn n) 8 _ (by omega) (by omega) (by omega)).mono ?_
    rintro e w1 ⟨rfl, hb⟩
    have K2 := Aside.mk (K1.out.below hb)
    have B2 := Aside.mk (below_later B1.out hb)
    clear K1 B1 hb
    have K1 := K2
    have B1 := B2
    clear K2 B2
    refine hK (fun w' => Blk w' w.heap.size 29 [.int .i64 k, .int .i64 n, .string s, .slice A1 m c1]) _ _ (fun _ h => h) K1.out ?_
    clear hK K
    refine ⟨?_, ?_⟩
    · refine tree_op rfl rfl (fun K hK => ?_)
      go_simp
      have KB : Aside (Blk (w1.alloc (.cells #[.int .u8 k] 5)) (w1.heap.size) 5 [.int .u8 k]) := ⟨Blk.made _ 5 [.int .u8 k] (by simp)⟩
      refine hK (fun w' => Blk w' w.heap.size 29 [.int .i64 k, .int .i64 n, .string s, .slice A1 m c1] ∧ Blk w' (w1.heap.size) 5 [.int .u8 k]) _ _ (fun _ h => h.1) ⟨K1.out.alloc _, KB.out⟩ ?_
      have K2 := Aside.mk (K1.out.alloc (.cells #[.int .u8 k] 5))
      have B2 := Aside.mk (B1.out.alloc B1.out.size (.cells #[.int .u8 k] 5))
      clear hK K K1 B1
      have K1 := K2
      have B1 := B2
      clear K2 B2
      refine tree_yields ?_ rfl rfl (fun w' hS => ?_) ?_
      rotate_left
      · have c1 := conv_one hS.2 (by omega) (by omega)
        go_simp
        rfl
      refine tree_yields ?_ rfl rfl (fun w' hS => ?_) ?_
      rotate_left
      · go_simp
        rfl
      refine tree_effect rfl rfl (fun K hK => ?_)
      go_simp
      refine (bytesOf (s.size) 2 _ (by omega) (by omega) (by omega)).mono ?_
      rintro e w2 ⟨rfl, hb⟩
      have K2 := Aside.mk (K1.out.below hb)
      have B2 := Aside.mk (below_later B1.out hb)
      have KB2 := Aside.mk (KB.out.below hb)
      clear KB
      have KB := KB2
      clear KB2
      clear K1 B1 hb
      have K1 := K2
      have B1 := B2
      clear K2 B2
      refine hK (fun w' => Blk w' w.heap.size 29 [.int .i64 k, .int .i64 n, .string s, .slice A1 m c1] ∧ Blk w' (w1.heap.size) 5 [.int .u8 k]) _ _ (fun _ h => h) ⟨K1.out, KB.out⟩ ?_
      clear hK K
      refine tree_yields ?_ rfl rfl (fun w' hS => ?_) ?_
      rotate_left
      · go_simp
        rfl
      refine tree_yields ?_ rfl rfl (fun w' hS => ?_) ?_
      rotate_left
      · go_simp
        rfl
      refine tree_effect rfl rfl (fun K hK => ?_)
      go_simp
      refine (bytesOf (m) 2 _ (by omega) (by omega) (by omega)).mono ?_
      rintro e w3 ⟨rfl, hb⟩
      have K2 := Aside.mk (K1.out.below hb)
      have B2 := Aside.mk (below_later B1.out hb)
      have KB2 := Aside.mk (KB.out.below hb)
      clear KB
      have KB := KB2
      clear KB2
      clear K1 B1 hb
      have K1 := K2
      have B1 := B2
      clear K2 B2
      refine hK (fun w' => Blk w' w.heap.size 29 [.int .i64 k, .int .i64 n, .string s, .slice A1 m c1] ∧ Blk w' (w1.heap.size) 5 [.int .u8 k]) _ _ (fun _ h => h) ⟨K1.out, KB.out⟩ ?_
      clear hK K
      refine tree_yields ?_ rfl rfl (fun w' hS => ?_) ?_
      rotate_left
      · go_simp
        rfl
      refine tree_effect rfl rfl (fun K hK => ?_)
      go_simp
      rw [show (((bes 1 k ++ bes 8 (nn n)) ++ bes 2 s.size) ++ s) ++ bes 2 m = headT k n s m from rfl]
      refine (hashText h (headT k n s m) _ g0 g1 (by rw [hz]; omega)).mono ?_
      rintro e w' ⟨rfl, rfl⟩
      refine hK (fun w' => Blk w' w.heap.size 29 [.int .i64 k, .int .i64 n, .string s, .slice A1 m c1] ∧ Blk w' (w1.heap.size) 5 [.int .u8 k]) _ _ (fun _ h => h) ⟨K1.out, KB.out⟩ ?_
      clear hK K
      refine tree_yields ?_ rfl rfl (fun w' hS => ?_) ?_
      rotate_left
      · go_simp
        rfl
      refine tree_end ?_
      clear hadd1 hadd2 hadd3 hadd4 hand hk8 q1 q2
      generalize hfold h (headT k n s m).data.toList = y at y0 y1 HY HV ⊢
      have yy := K1.out.cell 3
      simp only [List.getElem?_cons_zero, List.getElem?_cons_succ] at yy
      go_wp2_with fail
      clear yy
      go_loopw [0, 35] (fun x i wr => ∃ (j : Nat) (q : Int), j ≤ m ∧ i = .int .i64 j ∧ x = .int .u32 q ∧ 0 ≤ q ∧ q < 4294967296 ∧ Aside (q = hashTo ts j y) ∧ Aside (Blk wr w.heap.size 29 [.int .i64 k, .int .i64 n, .string s, .slice A1 m c1]) ∧ Aside (Below w.heap.size w wr)) (fun _ i _ => m - (intOf i).toNat)
      case atStart => exact ⟨0, _, Nat.zero_le _, rfl, rfl, y0, y1, HY, K1, B1⟩
      case round =>
        obtain ⟨j, q, hj, rfl, rfl, q0, q1, hq, hk0, hb0⟩ := hrel
        clear K1 B1 HY y0 y1
        have z3 := hk0.out.cell 3
        simp only [List.getElem?_cons_zero, List.getElem?_cons_succ] at z3
        by_cases hlt : j < m
        · have hlt1 : j < ts.length := by rw [← HN.out]; exact hlt
          rcases HA.out with h0 | ⟨b1, o1, rfl, hb1, f1, hf1, -, hrow1⟩
          · exfalso; rw [h0] at hlt1; exact absurd hlt1 (Nat.not_lt_zero _)
          obtain ⟨cs1, hr1, hc1⟩ := hrow1 j hlt1
          obtain ⟨x0, x1, x2, x3a, x3b, x3c, rfl⟩ := shapeTerm hr1
          have hbel2 := hb0.out
          have d10 : wr.cell? ⟨b1, o1 + j * 4, none⟩ = some (.int .i64 x0) := (hbel2.cell (p := ⟨b1, o1 + j * 4 + 0, none⟩) hb1).trans (hc1 0 (by decide))
          have d11 : wr.cell? ⟨b1, o1 + j * 4 + 1, none⟩ = some (.int .i64 x1) := (hbel2.cell (p := ⟨b1, o1 + j * 4 + 1, none⟩) hb1).trans (hc1 1 (by decide))
          have d12 : wr.cell? ⟨b1, o1 + j * 4 + 2, none⟩ = some (.string x2) := (hbel2.cell (p := ⟨b1, o1 + j * 4 + 2, none⟩) hb1).trans (hc1 2 (by decide))
          have d13 : wr.cell? ⟨b1, o1 + j * 4 + 3, none⟩ = some (.slice x3a x3b x3c) := (hbel2.cell (p := ⟨b1, o1 + j * 4 + 3, none⟩) hb1).trans (hc1 3 (by decide))
          have HR1 := Aside.mk (Rec.term.up (Rec.term.mono hr1 (fun c hc => (hf1 j c hc).1)) (fun _ h => h) (hbel2.alloc hbel2.size (.cells #[.int .i64 x0, .int .i64 x1, .string x2, .slice x3a x3b x3c] 29)))
          have W1 := HW.out j hlt1
          have hst := Aside.mk (hashTo_succ ts j y hlt1)
          have hrr := HRT.out j hlt1
          obtain ⟨u0, u1⟩ := hashf_range ts[j] q q0 q1
          clear hc1 hrow1 hf1 hr1 hbel2
          go_wp2_with fail
          refine (HIH.out ts[j] (List.getElem_mem hlt1) q [.int .i64 x0, .int .i64 x1, .string x2, .slice x3a x3b x3c] _ HR1.out W1 hrr q0 q1).mono ?_
          rintro e w2 ⟨rfl, hb2⟩
          have hk2 := Aside.mk ((hk0.out.alloc (.cells #[.int .i64 x0, .int .i64 x1, .string x2, .slice x3a x3b x3c] 29)).below hb2)
          have hb3 := Aside.mk (below_later (hb0.out.alloc hb0.out.size (.cells #[.int .i64 x0, .int .i64 x1, .string x2, .slice x3a x3b x3c] 29)) hb2)
          have hq2 : Aside (ts[j].hashf q = hashTo ts (j + 1) y) := ⟨by rw [hst.out, ← hq.out]⟩
          clear d10 d11 d12 d13 HR1 hb2 hk0 hb0 z3 hst hq W1 hrr
          generalize ts[j].hashf q = q2 at u0 u1 hq2 ⊢
          go_wp2_with fail
          go_roundw
          case rel => exact ⟨j + 1, q2, by omega, by go_num, rfl, u0, u1, hq2, hk2, hb3⟩
          case measure => first | (simp [intOf]; done) | (simp [intOf]; omega)
        · obtain rfl : j = m := by omega
          have E : Aside (res = q) := ⟨by rw [HV.out, hq.out, HN.out]⟩
          go_wp2_with fail
          go_ret
          exact ⟨ret_int E.out.symm, hb0.out⟩
  
    · refine tree_op rfl rfl (fun K hK => ?_)
      go_simp
      refine (bytesOf (s.size) 2 _ (by omega) (by omega) (by omega)).mono ?_
      rintro e w2 ⟨rfl, hb⟩
      have K2 := Aside.mk (K1.out.below hb)
      have B2 := Aside.mk (below_later B1.out hb)
      clear K1 B1 hb
      have K1 := K2
      have B1 := B2
      clear K2 B2
      refine hK (fun w' => Blk w' w.heap.size 29 [.int .i64 k, .int .i64 n, .string s, .slice A1 m c1]) _ _ (fun _ h => h) K1.out ?_
      clear hK K
      refine ⟨?_, ?_⟩
      · refine tree_op rfl rfl (fun K hK => ?_)
        go_simp
        have KB : Aside (Blk (w2.alloc (.cells #[.int .u8 k] 5)) (w2.heap.size) 5 [.int .u8 k]) := ⟨Blk.made _ 5 [.int .u8 k] (by simp)⟩
        refine hK (fun w' => Blk w' w.heap.size 29 [.int .i64 k, .int .i64 n, .string s, .slice A1 m c1] ∧ Blk w' (w2.heap.size) 5 [.int .u8 k]) _ _ (fun _ h => h.1) ⟨K1.out.alloc _, KB.out⟩ ?_
        have K2 := Aside.mk (K1.out.alloc (.cells #[.int .u8 k] 5))
        have B2 := Aside.mk (B1.out.alloc B1.out.size (.cells #[.int .u8 k] 5))
        clear hK K K1 B1
        have K1 := K2
        have B1 := B2
        clear K2 B2
        refine tree_yields ?_ rfl rfl (fun w' hS => ?_) ?_
        rotate_left
        · have c1 := conv_one hS.2 (by omega) (by omega)
          go_simp
          rfl
        refine tree_yields ?_ rfl rfl (fun w' hS => ?_) ?_
        rotate_left
        · go_simp
          rfl
        refine tree_yields ?_ rfl rfl (fun w' hS => ?_) ?_
        rotate_left
        · go_simp
          rfl
        refine tree_yields ?_ rfl rfl (fun w' hS => ?_) ?_
        rotate_left
        · go_simp
          rfl
        refine tree_effect rfl rfl (fun K hK => ?_)
        go_simp
        refine (bytesOf (m) 2 _ (by omega) (by omega) (by omega)).mono ?_
        rintro e w3 ⟨rfl, hb⟩
        have K2 := Aside.mk (K1.out.below hb)
        have B2 := Aside.mk (below_later B1.out hb)
        have KB2 := Aside.mk (KB.out.below hb)
        clear KB
        have KB := KB2
        clear KB2
        clear K1 B1 hb
        have K1 := K2
        have B1 := B2
        clear K2 B2
        refine hK (fun w' => Blk w' w.heap.size 29 [.int .i64 k, .int .i64 n, .string s, .slice A1 m c1] ∧ Blk w' (w2.heap.size) 5 [.int .u8 k]) _ _ (fun _ h => h) ⟨K1.out, KB.out⟩ ?_
        clear hK K
        refine tree_yields ?_ rfl rfl (fun w' hS => ?_) ?_
        rotate_left
        · go_simp
          rfl
        refine tree_effect rfl rfl (fun K hK => ?_)
        go_simp
        rw [show (((bes 1 k ++ bes 8 (nn n)) ++ bes 2 s.size) ++ s) ++ bes 2 m = headT k n s m from rfl]
        refine (hashText h (headT k n s m) _ g0 g1 (by rw [hz]; omega)).mono ?_
        rintro e w' ⟨rfl, rfl⟩
        refine hK (fun w' => Blk w' w.heap.size 29 [.int .i64 k, .int .i64 n, .string s, .slice A1 m c1] ∧ Blk w' (w2.heap.size) 5 [.int .u8 k]) _ _ (fun _ h => h) ⟨K1.out, KB.out⟩ ?_
        clear hK K
        refine tree_yields ?_ rfl rfl (fun w' hS => ?_) ?_
        rotate_left
        · go_simp
          rfl
        refine tree_end ?_
        clear hadd1 hadd2 hadd3 hadd4 hand hk8 q1 q2
        generalize hfold h (headT k n s m).data.toList = y at y0 y1 HY HV ⊢
        have yy := K1.out.cell 3
        simp only [List.getElem?_cons_zero, List.getElem?_cons_succ] at yy
        go_wp2_with fail
        clear yy
        go_loopw [0, 35] (fun x i wr => ∃ (j : Nat) (q : Int), j ≤ m ∧ i = .int .i64 j ∧ x = .int .u32 q ∧ 0 ≤ q ∧ q < 4294967296 ∧ Aside (q = hashTo ts j y) ∧ Aside (Blk wr w.heap.size 29 [.int .i64 k, .int .i64 n, .string s, .slice A1 m c1]) ∧ Aside (Below w.heap.size w wr)) (fun _ i _ => m - (intOf i).toNat)
        case atStart => exact ⟨0, _, Nat.zero_le _, rfl, rfl, y0, y1, HY, K1, B1⟩
        case round =>
          obtain ⟨j, q, hj, rfl, rfl, q0, q1, hq, hk0, hb0⟩ := hrel
          clear K1 B1 HY y0 y1
          have z3 := hk0.out.cell 3
          simp only [List.getElem?_cons_zero, List.getElem?_cons_succ] at z3
          by_cases hlt : j < m
          · have hlt1 : j < ts.length := by rw [← HN.out]; exact hlt
            rcases HA.out with h0 | ⟨b1, o1, rfl, hb1, f1, hf1, -, hrow1⟩
            · exfalso; rw [h0] at hlt1; exact absurd hlt1 (Nat.not_lt_zero _)
            obtain ⟨cs1, hr1, hc1⟩ := hrow1 j hlt1
            obtain ⟨x0, x1, x2, x3a, x3b, x3c, rfl⟩ := shapeTerm hr1
            have hbel2 := hb0.out
            have d10 : wr.cell? ⟨b1, o1 + j * 4, none⟩ = some (.int .i64 x0) := (hbel2.cell (p := ⟨b1, o1 + j * 4 + 0, none⟩) hb1).trans (hc1 0 (by decide))
            have d11 : wr.cell? ⟨b1, o1 + j * 4 + 1, none⟩ = some (.int .i64 x1) := (hbel2.cell (p := ⟨b1, o1 + j * 4 + 1, none⟩) hb1).trans (hc1 1 (by decide))
            have d12 : wr.cell? ⟨b1, o1 + j * 4 + 2, none⟩ = some (.string x2) := (hbel2.cell (p := ⟨b1, o1 + j * 4 + 2, none⟩) hb1).trans (hc1 2 (by decide))
            have d13 : wr.cell? ⟨b1, o1 + j * 4 + 3, none⟩ = some (.slice x3a x3b x3c) := (hbel2.cell (p := ⟨b1, o1 + j * 4 + 3, none⟩) hb1).trans (hc1 3 (by decide))
            have HR1 := Aside.mk (Rec.term.up (Rec.term.mono hr1 (fun c hc => (hf1 j c hc).1)) (fun _ h => h) (hbel2.alloc hbel2.size (.cells #[.int .i64 x0, .int .i64 x1, .string x2, .slice x3a x3b x3c] 29)))
            have W1 := HW.out j hlt1
            have hst := Aside.mk (hashTo_succ ts j y hlt1)
            have hrr := HRT.out j hlt1
            obtain ⟨u0, u1⟩ := hashf_range ts[j] q q0 q1
            clear hc1 hrow1 hf1 hr1 hbel2
            go_wp2_with fail
            refine (HIH.out ts[j] (List.getElem_mem hlt1) q [.int .i64 x0, .int .i64 x1, .string x2, .slice x3a x3b x3c] _ HR1.out W1 hrr q0 q1).mono ?_
            rintro e w2 ⟨rfl, hb2⟩
            have hk2 := Aside.mk ((hk0.out.alloc (.cells #[.int .i64 x0, .int .i64 x1, .string x2, .slice x3a x3b x3c] 29)).below hb2)
            have hb3 := Aside.mk (below_later (hb0.out.alloc hb0.out.size (.cells #[.int .i64 x0, .int .i64 x1, .string x2, .slice x3a x3b x3c] 29)) hb2)
            have hq2 : Aside (ts[j].hashf q = hashTo ts (j + 1) y) := ⟨by rw [hst.out, ← hq.out]⟩
            clear d10 d11 d12 d13 HR1 hb2 hk0 hb0 z3 hst hq W1 hrr
            generalize ts[j].hashf q = q2 at u0 u1 hq2 ⊢
            go_wp2_with fail
            go_roundw
            case rel => exact ⟨j + 1, q2, by omega, by go_num, rfl, u0, u1, hq2, hk2, hb3⟩
            case measure => first | (simp [intOf]; done) | (simp [intOf]; omega)
          · obtain rfl : j = m := by omega
            have E : Aside (res = q) := ⟨by rw [HV.out, hq.out, HN.out]⟩
            go_wp2_with fail
            go_ret
            exact ⟨ret_int E.out.symm, hb0.out⟩
    
      · refine tree_op rfl rfl (fun K hK => ?_)
        go_simp
        refine (bytesOf (m) 2 _ (by omega) (by omega) (by omega)).mono ?_
        rintro e w3 ⟨rfl, hb⟩
        have K2 := Aside.mk (K1.out.below hb)
        have B2 := Aside.mk (below_later B1.out hb)
        clear K1 B1 hb
        have K1 := K2
        have B1 := B2
        clear K2 B2
        refine hK (fun w' => Blk w' w.heap.size 29 [.int .i64 k, .int .i64 n, .string s, .slice A1 m c1]) _ _ (fun _ h => h) K1.out ?_
        clear hK K
        refine tree_effect rfl rfl (fun K hK => ?_)
        go_simp
        have KB : Aside (Blk (w3.alloc (.cells #[.int .u8 k] 5)) (w3.heap.size) 5 [.int .u8 k]) := ⟨Blk.made _ 5 [.int .u8 k] (by simp)⟩
        refine hK (fun w' => Blk w' w.heap.size 29 [.int .i64 k, .int .i64 n, .string s, .slice A1 m c1] ∧ Blk w' (w3.heap.size) 5 [.int .u8 k]) _ _ (fun _ h => h.1) ⟨K1.out.alloc _, KB.out⟩ ?_
        have K2 := Aside.mk (K1.out.alloc (.cells #[.int .u8 k] 5))
        have B2 := Aside.mk (B1.out.alloc B1.out.size (.cells #[.int .u8 k] 5))
        clear hK K K1 B1
        have K1 := K2
        have B1 := B2
        clear K2 B2
        refine tree_yields ?_ rfl rfl (fun w' hS => ?_) ?_
        rotate_left
        · have c1 := conv_one hS.2 (by omega) (by omega)
          go_simp
          rfl
        refine tree_yields ?_ rfl rfl (fun w' hS => ?_) ?_
        rotate_left
        · go_simp
          rfl
        refine tree_yields ?_ rfl rfl (fun w' hS => ?_) ?_
        rotate_left
        · go_simp
          rfl
        refine tree_yields ?_ rfl rfl (fun w' hS => ?_) ?_
        rotate_left
        · go_simp
          rfl
        refine tree_yields ?_ rfl rfl (fun w' hS => ?_) ?_
        rotate_left
        · go_simp
          rfl
        refine tree_effect rfl rfl (fun K hK => ?_)
        go_simp
        rw [show (((bes 1 k ++ bes 8 (nn n)) ++ bes 2 s.size) ++ s) ++ bes 2 m = headT k n s m from rfl]
        refine (hashText h (headT k n s m) _ g0 g1 (by rw [hz]; omega)).mono ?_
        rintro e w' ⟨rfl, rfl⟩
        refine hK (fun w' => Blk w' w.heap.size 29 [.int .i64 k, .int .i64 n, .string s, .slice A1 m c1] ∧ Blk w' (w3.heap.size) 5 [.int .u8 k]) _ _ (fun _ h => h) ⟨K1.out, KB.out⟩ ?_
        clear hK K
        refine tree_yields ?_ rfl rfl (fun w' hS => ?_) ?_
        rotate_left
        · go_simp
          rfl
        refine tree_end ?_
        clear hadd1 hadd2 hadd3 hadd4 hand hk8 q1 q2
        generalize hfold h (headT k n s m).data.toList = y at y0 y1 HY HV ⊢
        have yy := K1.out.cell 3
        simp only [List.getElem?_cons_zero, List.getElem?_cons_succ] at yy
        go_wp2_with fail
        clear yy
        go_loopw [0, 35] (fun x i wr => ∃ (j : Nat) (q : Int), j ≤ m ∧ i = .int .i64 j ∧ x = .int .u32 q ∧ 0 ≤ q ∧ q < 4294967296 ∧ Aside (q = hashTo ts j y) ∧ Aside (Blk wr w.heap.size 29 [.int .i64 k, .int .i64 n, .string s, .slice A1 m c1]) ∧ Aside (Below w.heap.size w wr)) (fun _ i _ => m - (intOf i).toNat)
        case atStart => exact ⟨0, _, Nat.zero_le _, rfl, rfl, y0, y1, HY, K1, B1⟩
        case round =>
          obtain ⟨j, q, hj, rfl, rfl, q0, q1, hq, hk0, hb0⟩ := hrel
          clear K1 B1 HY y0 y1
          have z3 := hk0.out.cell 3
          simp only [List.getElem?_cons_zero, List.getElem?_cons_succ] at z3
          by_cases hlt : j < m
          · have hlt1 : j < ts.length := by rw [← HN.out]; exact hlt
            rcases HA.out with h0 | ⟨b1, o1, rfl, hb1, f1, hf1, -, hrow1⟩
            · exfalso; rw [h0] at hlt1; exact absurd hlt1 (Nat.not_lt_zero _)
            obtain ⟨cs1, hr1, hc1⟩ := hrow1 j hlt1
            obtain ⟨x0, x1, x2, x3a, x3b, x3c, rfl⟩ := shapeTerm hr1
            have hbel2 := hb0.out
            have d10 : wr.cell? ⟨b1, o1 + j * 4, none⟩ = some (.int .i64 x0) := (hbel2.cell (p := ⟨b1, o1 + j * 4 + 0, none⟩) hb1).trans (hc1 0 (by decide))
            have d11 : wr.cell? ⟨b1, o1 + j * 4 + 1, none⟩ = some (.int .i64 x1) := (hbel2.cell (p := ⟨b1, o1 + j * 4 + 1, none⟩) hb1).trans (hc1 1 (by decide))
            have d12 : wr.cell? ⟨b1, o1 + j * 4 + 2, none⟩ = some (.string x2) := (hbel2.cell (p := ⟨b1, o1 + j * 4 + 2, none⟩) hb1).trans (hc1 2 (by decide))
            have d13 : wr.cell? ⟨b1, o1 + j * 4 + 3, none⟩ = some (.slice x3a x3b x3c) := (hbel2.cell (p := ⟨b1, o1 + j * 4 + 3, none⟩) hb1).trans (hc1 3 (by decide))
            have HR1 := Aside.mk (Rec.term.up (Rec.term.mono hr1 (fun c hc => (hf1 j c hc).1)) (fun _ h => h) (hbel2.alloc hbel2.size (.cells #[.int .i64 x0, .int .i64 x1, .string x2, .slice x3a x3b x3c] 29)))
            have W1 := HW.out j hlt1
            have hst := Aside.mk (hashTo_succ ts j y hlt1)
            have hrr := HRT.out j hlt1
            obtain ⟨u0, u1⟩ := hashf_range ts[j] q q0 q1
            clear hc1 hrow1 hf1 hr1 hbel2
            go_wp2_with fail
            refine (HIH.out ts[j] (List.getElem_mem hlt1) q [.int .i64 x0, .int .i64 x1, .string x2, .slice x3a x3b x3c] _ HR1.out W1 hrr q0 q1).mono ?_
            rintro e w2 ⟨rfl, hb2⟩
            have hk2 := Aside.mk ((hk0.out.alloc (.cells #[.int .i64 x0, .int .i64 x1, .string x2, .slice x3a x3b x3c] 29)).below hb2)
            have hb3 := Aside.mk (below_later (hb0.out.alloc hb0.out.size (.cells #[.int .i64 x0, .int .i64 x1, .string x2, .slice x3a x3b x3c] 29)) hb2)
            have hq2 : Aside (ts[j].hashf q = hashTo ts (j + 1) y) := ⟨by rw [hst.out, ← hq.out]⟩
            clear d10 d11 d12 d13 HR1 hb2 hk0 hb0 z3 hst hq W1 hrr
            generalize ts[j].hashf q = q2 at u0 u1 hq2 ⊢
            go_wp2_with fail
            go_roundw
            case rel => exact ⟨j + 1, q2, by omega, by go_num, rfl, u0, u1, hq2, hk2, hb3⟩
            case measure => first | (simp [intOf]; done) | (simp [intOf]; omega)
          · obtain rfl : j = m := by omega
            have E : Aside (res = q) := ⟨by rw [HV.out, hq.out, HN.out]⟩
            go_wp2_with fail
            go_ret
            exact ⟨ret_int E.out.symm, hb0.out⟩
    
end Go.Proofs.Ytdcmoilajplfdaa.Fn

/- The number of a term; walk of the reference's l01Hash. Conditions: those of each theorem. -/
import Derived.Test.YtdcmoilajplfdaaTm15
import Derived.Test.YtdcmoilajplfdaaBytes
import Derived.Test.YtdcmoilajplfdaaPlanT
set_option linter.unusedVariables false
namespace Go.Proofs.Ytdcmoilajplfdaa.Lib
open Go.RowKit Go.Proofs.Ytdcmoilajplfdaa.Fn

/-- A number's low 63 bits. -/
def nn (n : Int) : Int := if n < 0 then n + 9223372036854775808 else n
/-- A term's own bytes. -/
def headT (k n : Int) (s : ByteArray) (m : Nat) : ByteArray := (((bes 1 k ++ bes 8 (nn n)) ++ bes 2 s.size) ++ s) ++ bes 2 m
def T.hashf : T → Int → Int
  | .mk k n s ts, h => ts.attach.foldl (fun h x => T.hashf x.1 h) (hfold h (headT k n s ts.length).data.toList)
termination_by t _ => SizeOf.sizeOf t
decreasing_by exact T.kid_lt (t := .mk k n s ts) x.2
def hashTo (ts : List T) (k : Nat) (h : Int) : Int := (ts.take k).foldl (fun h x => x.hashf h) h
theorem T.hashf_eq (k n : Int) (s : ByteArray) (ts : List T) (h : Int) : T.hashf (.mk k n s ts) h = hashTo ts ts.length (hfold h (headT k n s ts.length).data.toList) := by
  rw [T.hashf, hashTo, List.take_length]
  generalize hfold h (headT k n s ts.length).data.toList = y
  conv => rhs; rw [← attach_val ts, List.foldl_map]
theorem hashTo_succ (ts : List T) (k : Nat) (h : Int) (hk : k < ts.length) : hashTo ts (k + 1) h = ts[k].hashf (hashTo ts k h) := by
  unfold hashTo
  rw [List.take_succ_eq_append_getElem hk, List.foldl_append]
  rfl
theorem hashf_range (t : T) : ∀ h, 0 ≤ h → h < 4294967296 → 0 ≤ t.hashf h ∧ t.hashf h < 4294967296 := by
  induction t using T.ind with
  | h k n s ts ih =>
  intro h h0 h1
  rw [T.hashf_eq, hashTo, List.take_length]
  have hr := hfold_range (headT k n s ts.length).data.toList h h0 h1
  generalize hfold h (headT k n s ts.length).data.toList = y at hr
  revert hr
  revert y
  induction ts with
  | nil => exact fun y hr => hr
  | cons x ts iht =>
    intro y hr
    rw [List.foldl_cons]
    exact iht (fun z hz => ih z (by simp [hz])) _ (ih x (by simp) y hr.1 hr.2)
theorem hashTo_range (ts : List T) (k : Nat) (h : Int) (h0 : 0 ≤ h) (h1 : h < 4294967296) : 0 ≤ hashTo ts k h ∧ hashTo ts k h < 4294967296 := by
  unfold hashTo
  generalize ts.take k = l
  revert h
  induction l with
  | nil => exact fun h h0 h1 => ⟨h0, h1⟩
  | cons x l ih =>
    intro h h0 h1
    rw [List.foldl_cons]
    obtain ⟨a, b⟩ := hashf_range x h h0 h1
    exact ih _ a b
theorem headT_size (k n : Int) (s : ByteArray) (m : Nat) : (headT k n s m).size = 13 + s.size := by
  unfold headT
  simp only [ByteArray.size_append, bes_size]
  omega
end Go.Proofs.Ytdcmoilajplfdaa.Lib
namespace Go.Proofs.Ytdcmoilajplfdaa.Fn
open Go.RowKit Go.Proofs.Ytdcmoilajplfdaa.Lib Go.Proofs.Ytdcmoilajplfdaa.Plan
set_option maxRecDepth 100000 in
set_option maxHeartbeats 8000000 in
theorem l01Hash (t : T) : ∀ (h : Int) (cs : List Value) (w : World), Rec.term.rd False w (Old w) t cs → Rec.term.wt t ≤ 1048576 → t.right = true → 0 ≤ h → h < 4294967296 →
    Calls Try.prog 64 #[.int .i64 h, .agg cs.toArray] w fun e w' => e = .returned (.int .i64 (t.hashf h)) ∧ Below w.heap.size w w' := by
  induction t using T.ind with
  | h k n s ts ih =>
  intro h cs w hrd hta hright g0 g1
  obtain ⟨A1, c1, rfl, h1⟩ := Rec.term_iff.1 hrd
  change Rec.term.sl.rd False w (Old w) ts [.slice A1 ts.length c1] at h1
  have WT := wt_sl _ _ _ _ _ hta
  have hs := wt_s _ _ _ _ _ hta
  have HIH := Aside.mk ih
  have HW := Aside.mk (wt_kid WT)
  have L1 := wt_len WT
  obtain ⟨o1, r1, -⟩ := right_parts hright
  obtain ⟨n1, n2⟩ := own_num o1
  have kb : 1 ≤ k ∧ k ≤ 9 := by have := own_kind o1; omega
  obtain ⟨kb1, kb2⟩ := kb
  have HRT := Aside.mk (fun (j : Nat) (hj : j < ts.length) => r1 ts[j] (List.getElem_mem hj))
  obtain ⟨_, _, he, hcap, h1⟩ := h1
  injection he with he _
  injection he with e1 e2 e3
  subst e1 e3
  have HA := Aside.mk h1
  obtain ⟨res, hres⟩ : ∃ r, r = (T.mk k n s ts).hashf h := ⟨_, rfl⟩
  rw [← hres]
  rw [T.hashf_eq] at hres
  obtain ⟨m, hln⟩ : ∃ m, m = ts.length := ⟨_, rfl⟩
  have hln2 : ts.length = m := hln.symm
  rw [hln2] at hres
  have HV := Aside.mk hres
  have HN := Aside.mk hln
  have hz := headT_size k n s m
  obtain ⟨y0, y1⟩ := hfold_range (headT k n s m).data.toList h g0 g1
  have HY : Aside (hfold h (headT k n s m).data.toList = hashTo ts 0 (hfold h (headT k n s m).data.toList)) := ⟨rfl⟩
  show Calls Try.prog 64 #[.int .i64 h, .agg #[.int .i64 k, .int .i64 n, .string s, .slice A1 ts.length c1]] w _
  rw [hln2] at L1 hcap ⊢
  clear ih h1 hrd hta hres hln hln2 WT o1 r1 hright
  have K0 := Aside.mk (Blk.new w 29 [.int .i64 k, .int .i64 n, .string s, .slice A1 m c1])
  have B0 : Aside (Below w.heap.size w (w.alloc (.cells #[.int .i64 k, .int .i64 n, .string s, .slice A1 m c1] 29))) := ⟨by go_grown⟩
  have hadd1 : ∀ (v : Int) (wx : World), (Op.stringOp .add (bes 1 k) (bes 8 v)).run Try.prog wx = .ok (.string (bes 1 k ++ bes 8 v)) wx := fun v wx => run_string_add_sum (w := wx) _ _ (by rw [bes_size, bes_size]; omega)
  have hadd2 : ∀ (v : Int) (wx : World), (Op.stringOp .add (bes 1 k ++ bes 8 v) (bes 2 s.size)).run Try.prog wx = .ok (.string ((bes 1 k ++ bes 8 v) ++ bes 2 s.size)) wx := fun v wx => run_string_add_sum (w := wx) _ _ (by simp only [ByteArray.size_append, bes_size]; omega)
  have hadd3 : ∀ (v : Int) (wx : World), (Op.stringOp .add ((bes 1 k ++ bes 8 v) ++ bes 2 s.size) s).run Try.prog wx = .ok (.string (((bes 1 k ++ bes 8 v) ++ bes 2 s.size) ++ s)) wx := fun v wx => run_string_add_sum (w := wx) _ _ (by simp only [ByteArray.size_append, bes_size]; omega)
  have hadd4 : ∀ (v : Int) (wx : World), (Op.stringOp .add (((bes 1 k ++ bes 8 v) ++ bes 2 s.size) ++ s) (bes 2 m)).run Try.prog wx = .ok (.string ((((bes 1 k ++ bes 8 v) ++ bes 2 s.size) ++ s) ++ bes 2 m)) wx := fun v wx => run_string_add_sum (w := wx) _ _ (by simp only [ByteArray.size_append, bes_size]; omega)
  by_cases hn : n < 0
  · have hn2 : n < 0 := hn
    go_enter Try.func64, Try.ntmps64
    go_wp2_with fail
    refine region_all [(0, true), (1, true), (2, true), (4, true), (7, true), (8, true), (9, true), (12, true), (13, true), (15, true), (16, true), (17, true), (3, false), (5, false), (6, true), (10, false), (11, true), (14, true), (18, false), (19, true), (20, false), (21, true)] (fun w' => Blk w' w.heap.size 29 [.int .i64 k, .int .i64 n, .string s, .slice A1 m c1]) (by kernel_rfl) (by kernel_rfl) (fun _ _ d _ _ h => by cases d <;> exact h) K0.out.drew ?_
    refine plan_yields ?_ rfl rfl (fun w' hS => ?_) ?_
    rotate_left
    · go_simp
      rfl
    refine plan_yields ?_ rfl rfl (fun w' hS => ?_) ?_
    rotate_left
    · go_simp
      rfl
    refine plan_yields ?_ rfl rfl (fun w' hS => ?_) ?_
    rotate_left
    · have c1 := hS.cell 0
      go_simp
      rfl
    refine plan_yields ?_ rfl rfl (fun w' hS => ?_) ?_
    rotate_left
    · go_simp
      rfl
    refine plan_yields ?_ rfl rfl (fun w' hS => ?_) ?_
    rotate_left
    · go_simp
      rfl
    refine plan_yields ?_ rfl rfl (fun w' hS => ?_) ?_
    rotate_left
    · have c1 := hS.cell 2
      go_simp
      rfl
    refine plan_yields ?_ rfl rfl (fun w' hS => ?_) ?_
    rotate_left
    · go_simp
      rfl
    refine plan_yields ?_ rfl rfl (fun w' hS => ?_) ?_
    rotate_left
    · go_simp
      rfl
    refine plan_yields ?_ rfl rfl (fun w' hS => ?_) ?_
    rotate_left
    · have c1 := hS.cell 2
      go_simp
      rfl
    refine plan_yields ?_ rfl rfl (fun w' hS => ?_) ?_
    rotate_left
    · go_simp
      rfl
    refine plan_yields ?_ rfl rfl (fun w' hS => ?_) ?_
    rotate_left
    · have c1 := hS.cell 3
      go_simp
      rfl
    refine plan_yields ?_ rfl rfl (fun w' hS => ?_) ?_
    rotate_left
    · go_simp
      rfl
    have K1 := Aside.mk K0.out.drew
    have B1 := Aside.mk B0.out.drew
    clear K0 B0
    refine plan_effect rfl rfl (fun K hK => ?_)
    go_simp
    refine (l01Byte k _ (by omega) (by omega)).mono ?_
    rintro e w1 ⟨rfl, hb⟩
    have K2 := Aside.mk (K1.out.below hb)
    have B2 := Aside.mk (below_later B1.out hb)
    clear K1 B1 hb
    have K1 := K2
    have B1 := B2
    clear K2 B2
    refine hK _ _ K1.out ?_
    clear hK K
    refine plan_effect rfl rfl (fun K hK => ?_)
    go_simp
    refine (l01Bytes (n + 4611686018427387904 + 4611686018427387904) 8 _ (by omega) (by omega) (by omega)).mono ?_
    rintro e w2 ⟨rfl, hb⟩
    have K2 := Aside.mk (K1.out.below hb)
    have B2 := Aside.mk (below_later B1.out hb)
    clear K1 B1 hb
    have K1 := K2
    have B1 := B2
    clear K2 B2
    refine hK _ _ K1.out ?_
    clear hK K
    refine plan_yields ?_ rfl rfl (fun w' hS => ?_) ?_
    rotate_left
    · go_simp
      rfl
    refine plan_effect rfl rfl (fun K hK => ?_)
    go_simp
    refine (l01Bytes (s.size) 2 _ (by omega) (by omega) (by omega)).mono ?_
    rintro e w3 ⟨rfl, hb⟩
    have K2 := Aside.mk (K1.out.below hb)
    have B2 := Aside.mk (below_later B1.out hb)
    clear K1 B1 hb
    have K1 := K2
    have B1 := B2
    clear K2 B2
    refine hK _ _ K1.out ?_
    clear hK K
    refine plan_yields ?_ rfl rfl (fun w' hS => ?_) ?_
    rotate_left
    · go_simp
      rfl
    refine plan_yields ?_ rfl rfl (fun w' hS => ?_) ?_
    rotate_left
    · go_simp
      rfl
    refine plan_effect rfl rfl (fun K hK => ?_)
    go_simp
    refine (l01Bytes (m) 2 _ (by omega) (by omega) (by omega)).mono ?_
    rintro e w4 ⟨rfl, hb⟩
    have K2 := Aside.mk (K1.out.below hb)
    have B2 := Aside.mk (below_later B1.out hb)
    clear K1 B1 hb
    have K1 := K2
    have B1 := B2
    clear K2 B2
    refine hK _ _ K1.out ?_
    clear hK K
    refine plan_yields ?_ rfl rfl (fun w' hS => ?_) ?_
    rotate_left
    · go_simp
      rfl
    refine plan_effect rfl rfl (fun K hK => ?_)
    go_simp
    rw [show (((bes 1 k ++ bes 8 (n + 4611686018427387904 + 4611686018427387904)) ++ bes 2 s.size) ++ s) ++ bes 2 m = headT k n s m by rw [headT, show nn n = n + 4611686018427387904 + 4611686018427387904 by unfold nn; split <;> omega]]
    refine (l01HashOn h (headT k n s m) _ g0 g1 (by rw [hz]; omega)).mono ?_
    rintro e w' ⟨rfl, rfl⟩
    refine hK _ _ K1.out ?_
    clear hK K
    refine plan_yields ?_ rfl rfl (fun w' hS => ?_) ?_
    rotate_left
    · go_simp
      rfl
    refine plan_end ?_
    clear hadd1 hadd2 hadd3 hadd4
    generalize hfold h (headT k n s m).data.toList = y at y0 y1 HY HV ⊢
    go_wp2_with fail
    go_loopw [0, 6] (fun x i wr => ∃ (j : Nat) (q : Int), j ≤ m ∧ i = .int .i64 j ∧ x = .int .i64 q ∧ 0 ≤ q ∧ q < 4294967296 ∧ Aside (q = hashTo ts j y) ∧ Aside (Blk wr w.heap.size 29 [.int .i64 k, .int .i64 n, .string s, .slice A1 m c1]) ∧ Aside (Below w.heap.size w wr)) (fun _ i _ => m - (intOf i).toNat)
    case atStart => exact ⟨0, _, Nat.zero_le _, rfl, rfl, y0, y1, HY, K1, B1⟩
    case round =>
      obtain ⟨j, q, hj, rfl, rfl, q0, q1, hq, hk0, hb0⟩ := hrel
      clear K1 B1 HY y0 y1
      have z3 := hk0.out.cell 3
      simp only [List.getElem?_cons_zero, List.getElem?_cons_succ] at z3
      by_cases hlt : j < m
      · have hlt1 : j < ts.length := by rw [← HN.out]; exact hlt
        rcases HA.out with h0 | ⟨b1, o1, rfl, hb1, f1, hf1, -, hrow1⟩
        · exfalso; rw [h0] at hlt1; exact absurd hlt1 (Nat.not_lt_zero _)
        obtain ⟨cs1, hr1, hc1⟩ := hrow1 j hlt1
        obtain ⟨x0, x1, x2, x3a, x3b, x3c, rfl⟩ := shapeTerm hr1
        have hbel2 := hb0.out
        have d10 : wr.cell? ⟨b1, o1 + j * 4, none⟩ = some (.int .i64 x0) := (hbel2.cell (p := ⟨b1, o1 + j * 4 + 0, none⟩) hb1).trans (hc1 0 (by decide))
        have d11 : wr.cell? ⟨b1, o1 + j * 4 + 1, none⟩ = some (.int .i64 x1) := (hbel2.cell (p := ⟨b1, o1 + j * 4 + 1, none⟩) hb1).trans (hc1 1 (by decide))
        have d12 : wr.cell? ⟨b1, o1 + j * 4 + 2, none⟩ = some (.string x2) := (hbel2.cell (p := ⟨b1, o1 + j * 4 + 2, none⟩) hb1).trans (hc1 2 (by decide))
        have d13 : wr.cell? ⟨b1, o1 + j * 4 + 3, none⟩ = some (.slice x3a x3b x3c) := (hbel2.cell (p := ⟨b1, o1 + j * 4 + 3, none⟩) hb1).trans (hc1 3 (by decide))
        have HR1 := Aside.mk (Rec.term.up (w1 := wr) (Rec.term.mono hr1 (fun c hc => (hf1 j c hc).1)) (fun _ h => h) hbel2)
        have W1 := HW.out j hlt1
        have hst := Aside.mk (hashTo_succ ts j y hlt1)
        have hrr := HRT.out j hlt1
        obtain ⟨u0, u1⟩ := hashf_range ts[j] q q0 q1
        clear hc1 hrow1 hf1 hr1 hbel2
        go_wp2_with fail
        refine (HIH.out ts[j] (List.getElem_mem hlt1) q [.int .i64 x0, .int .i64 x1, .string x2, .slice x3a x3b x3c] _ HR1.out W1 hrr q0 q1).mono ?_
        rintro e w2 ⟨rfl, hb2⟩
        have hk2 := Aside.mk ((hk0.out).below hb2)
        have hb3 := Aside.mk (below_later (hb0.out) hb2)
        have hq2 : Aside (ts[j].hashf q = hashTo ts (j + 1) y) := ⟨by rw [hst.out, ← hq.out]⟩
        clear d10 d11 d12 d13 HR1 hb2 hk0 hb0 z3 hst hq W1 hrr
        generalize ts[j].hashf q = q2 at u0 u1 hq2 ⊢
        go_wp2_with fail
        go_roundw
        case rel => exact ⟨j + 1, q2, by omega, by go_num, rfl, u0, u1, hq2, hk2, hb3⟩
        case measure => first | (simp [intOf]; done) | (simp [intOf]; omega)
      · obtain rfl : j = m := by omega
        have E : Aside (res = q) := ⟨by rw [HV.out, hq.out, HN.out]⟩
        go_wp2_with fail
        go_ret
        exact ⟨ret_int E.out.symm, hb0.out⟩
  · have hn2 : 0 ≤ n := by omega
    go_enter Try.func64, Try.ntmps64
    go_wp2_with fail
    refine region_all [(0, true), (1, true), (2, true), (4, true), (7, true), (8, true), (9, true), (12, true), (13, true), (15, true), (16, true), (17, true), (3, false), (5, false), (6, true), (10, false), (11, true), (14, true), (18, false), (19, true), (20, false), (21, true)] (fun w' => Blk w' w.heap.size 29 [.int .i64 k, .int .i64 n, .string s, .slice A1 m c1]) (by kernel_rfl) (by kernel_rfl) (fun _ _ d _ _ h => by cases d <;> exact h) K0.out.drew ?_
    refine plan_yields ?_ rfl rfl (fun w' hS => ?_) ?_
    rotate_left
    · go_simp
      rfl
    refine plan_yields ?_ rfl rfl (fun w' hS => ?_) ?_
    rotate_left
    · go_simp
      rfl
    refine plan_yields ?_ rfl rfl (fun w' hS => ?_) ?_
    rotate_left
    · have c1 := hS.cell 0
      go_simp
      rfl
    refine plan_yields ?_ rfl rfl (fun w' hS => ?_) ?_
    rotate_left
    · go_simp
      rfl
    refine plan_yields ?_ rfl rfl (fun w' hS => ?_) ?_
    rotate_left
    · go_simp
      rfl
    refine plan_yields ?_ rfl rfl (fun w' hS => ?_) ?_
    rotate_left
    · have c1 := hS.cell 2
      go_simp
      rfl
    refine plan_yields ?_ rfl rfl (fun w' hS => ?_) ?_
    rotate_left
    · go_simp
      rfl
    refine plan_yields ?_ rfl rfl (fun w' hS => ?_) ?_
    rotate_left
    · go_simp
      rfl
    refine plan_yields ?_ rfl rfl (fun w' hS => ?_) ?_
    rotate_left
    · have c1 := hS.cell 2
      go_simp
      rfl
    refine plan_yields ?_ rfl rfl (fun w' hS => ?_) ?_
    rotate_left
    · go_simp
      rfl
    refine plan_yields ?_ rfl rfl (fun w' hS => ?_) ?_
    rotate_left
    · have c1 := hS.cell 3
      go_simp
      rfl
    refine plan_yields ?_ rfl rfl (fun w' hS => ?_) ?_
    rotate_left
    · go_simp
      rfl
    have K1 := Aside.mk K0.out.drew
    have B1 := Aside.mk B0.out.drew
    clear K0 B0
    refine plan_effect rfl rfl (fun K hK => ?_)
    go_simp
    refine (l01Byte k _ (by omega) (by omega)).mono ?_
    rintro e w1 ⟨rfl, hb⟩
    have K2 := Aside.mk (K1.out.below hb)
    have B2 := Aside.mk (below_later B1.out hb)
    clear K1 B1 hb
    have K1 := K2
    have B1 := B2
    clear K2 B2
    refine hK _ _ K1.out ?_
    clear hK K
    refine plan_effect rfl rfl (fun K hK => ?_)
    go_simp
    refine (l01Bytes (n) 8 _ (by omega) (by omega) (by omega)).mono ?_
    rintro e w2 ⟨rfl, hb⟩
    have K2 := Aside.mk (K1.out.below hb)
    have B2 := Aside.mk (below_later B1.out hb)
    clear K1 B1 hb
    have K1 := K2
    have B1 := B2
    clear K2 B2
    refine hK _ _ K1.out ?_
    clear hK K
    refine plan_yields ?_ rfl rfl (fun w' hS => ?_) ?_
    rotate_left
    · go_simp
      rfl
    refine plan_effect rfl rfl (fun K hK => ?_)
    go_simp
    refine (l01Bytes (s.size) 2 _ (by omega) (by omega) (by omega)).mono ?_
    rintro e w3 ⟨rfl, hb⟩
    have K2 := Aside.mk (K1.out.below hb)
    have B2 := Aside.mk (below_later B1.out hb)
    clear K1 B1 hb
    have K1 := K2
    have B1 := B2
    clear K2 B2
    refine hK _ _ K1.out ?_
    clear hK K
    refine plan_yields ?_ rfl rfl (fun w' hS => ?_) ?_
    rotate_left
    · go_simp
      rfl
    refine plan_yields ?_ rfl rfl (fun w' hS => ?_) ?_
    rotate_left
    · go_simp
      rfl
    refine plan_effect rfl rfl (fun K hK => ?_)
    go_simp
    refine (l01Bytes (m) 2 _ (by omega) (by omega) (by omega)).mono ?_
    rintro e w4 ⟨rfl, hb⟩
    have K2 := Aside.mk (K1.out.below hb)
    have B2 := Aside.mk (below_later B1.out hb)
    clear K1 B1 hb
    have K1 := K2
    have B1 := B2
    clear K2 B2
    refine hK _ _ K1.out ?_
    clear hK K
    refine plan_yields ?_ rfl rfl (fun w' hS => ?_) ?_
    rotate_left
    · go_simp
      rfl
    refine plan_effect rfl rfl (fun K hK => ?_)
    go_simp
    rw [show (((bes 1 k ++ bes 8 (n)) ++ bes 2 s.size) ++ s) ++ bes 2 m = headT k n s m by rw [headT, show nn n = n by unfold nn; split <;> omega]]
    refine (l01HashOn h (headT k n s m) _ g0 g1 (by rw [hz]; omega)).mono ?_
    rintro e w' ⟨rfl, rfl⟩
    refine hK _ _ K1.out ?_
    clear hK K
    refine plan_yields ?_ rfl rfl (fun w' hS => ?_) ?_
    rotate_left
    · go_simp
      rfl
    refine plan_end ?_
    clear hadd1 hadd2 hadd3 hadd4
    generalize hfold h (headT k n s m).data.toList = y at y0 y1 HY HV ⊢
    go_wp2_with fail
    go_loopw [0, 6] (fun x i wr => ∃ (j : Nat) (q : Int), j ≤ m ∧ i = .int .i64 j ∧ x = .int .i64 q ∧ 0 ≤ q ∧ q < 4294967296 ∧ Aside (q = hashTo ts j y) ∧ Aside (Blk wr w.heap.size 29 [.int .i64 k, .int .i64 n, .string s, .slice A1 m c1]) ∧ Aside (Below w.heap.size w wr)) (fun _ i _ => m - (intOf i).toNat)
    case atStart => exact ⟨0, _, Nat.zero_le _, rfl, rfl, y0, y1, HY, K1, B1⟩
    case round =>
      obtain ⟨j, q, hj, rfl, rfl, q0, q1, hq, hk0, hb0⟩ := hrel
      clear K1 B1 HY y0 y1
      have z3 := hk0.out.cell 3
      simp only [List.getElem?_cons_zero, List.getElem?_cons_succ] at z3
      by_cases hlt : j < m
      · have hlt1 : j < ts.length := by rw [← HN.out]; exact hlt
        rcases HA.out with h0 | ⟨b1, o1, rfl, hb1, f1, hf1, -, hrow1⟩
        · exfalso; rw [h0] at hlt1; exact absurd hlt1 (Nat.not_lt_zero _)
        obtain ⟨cs1, hr1, hc1⟩ := hrow1 j hlt1
        obtain ⟨x0, x1, x2, x3a, x3b, x3c, rfl⟩ := shapeTerm hr1
        have hbel2 := hb0.out
        have d10 : wr.cell? ⟨b1, o1 + j * 4, none⟩ = some (.int .i64 x0) := (hbel2.cell (p := ⟨b1, o1 + j * 4 + 0, none⟩) hb1).trans (hc1 0 (by decide))
        have d11 : wr.cell? ⟨b1, o1 + j * 4 + 1, none⟩ = some (.int .i64 x1) := (hbel2.cell (p := ⟨b1, o1 + j * 4 + 1, none⟩) hb1).trans (hc1 1 (by decide))
        have d12 : wr.cell? ⟨b1, o1 + j * 4 + 2, none⟩ = some (.string x2) := (hbel2.cell (p := ⟨b1, o1 + j * 4 + 2, none⟩) hb1).trans (hc1 2 (by decide))
        have d13 : wr.cell? ⟨b1, o1 + j * 4 + 3, none⟩ = some (.slice x3a x3b x3c) := (hbel2.cell (p := ⟨b1, o1 + j * 4 + 3, none⟩) hb1).trans (hc1 3 (by decide))
        have HR1 := Aside.mk (Rec.term.up (w1 := wr) (Rec.term.mono hr1 (fun c hc => (hf1 j c hc).1)) (fun _ h => h) hbel2)
        have W1 := HW.out j hlt1
        have hst := Aside.mk (hashTo_succ ts j y hlt1)
        have hrr := HRT.out j hlt1
        obtain ⟨u0, u1⟩ := hashf_range ts[j] q q0 q1
        clear hc1 hrow1 hf1 hr1 hbel2
        go_wp2_with fail
        refine (HIH.out ts[j] (List.getElem_mem hlt1) q [.int .i64 x0, .int .i64 x1, .string x2, .slice x3a x3b x3c] _ HR1.out W1 hrr q0 q1).mono ?_
        rintro e w2 ⟨rfl, hb2⟩
        have hk2 := Aside.mk ((hk0.out).below hb2)
        have hb3 := Aside.mk (below_later (hb0.out) hb2)
        have hq2 : Aside (ts[j].hashf q = hashTo ts (j + 1) y) := ⟨by rw [hst.out, ← hq.out]⟩
        clear d10 d11 d12 d13 HR1 hb2 hk0 hb0 z3 hst hq W1 hrr
        generalize ts[j].hashf q = q2 at u0 u1 hq2 ⊢
        go_wp2_with fail
        go_roundw
        case rel => exact ⟨j + 1, q2, by omega, by go_num, rfl, u0, u1, hq2, hk2, hb3⟩
        case measure => first | (simp [intOf]; done) | (simp [intOf]; omega)
      · obtain rfl : j = m := by omega
        have E : Aside (res = q) := ⟨by rw [HV.out, hq.out, HN.out]⟩
        go_wp2_with fail
        go_ret
        exact ⟨ret_int E.out.symm, hb0.out⟩
end Go.Proofs.Ytdcmoilajplfdaa.Fn

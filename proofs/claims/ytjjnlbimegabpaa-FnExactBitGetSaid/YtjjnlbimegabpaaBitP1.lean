/- Walk of the program's bitOrder. Conditions: those of the theorem. -/
import Derived.Test.YtjjnlbimegabpaaBitP0
set_option linter.unusedVariables false
namespace Go.Proofs.Ytjjnlbimegabpaa.Fn
open Go.RowKit Go.Proofs.Ytjjnlbimegabpaa.Lib Go.Proofs.Ytjjnlbimegabpaa.Plan

theorem infoInt : (Try.prog.info? 3).map (fun i => (i.zero, i.size, i.bytes)) = some (some (.int .i64 0), 1, 8) := by kernel_rfl
def ci (l : List Int) : List Value := l.map (Value.int .i64)
theorem ci_snoc (l : List Int) (x : Int) : ci l ++ [Value.int .i64 x] = ci (l ++ [x]) := by simp [ci]
/-- Whole numbers that lie in a row. -/
def RowI (w : World) (g off : Nat) (xs : List Int) : Prop := g < w.heap.size ∧ ∀ j, j < xs.length → w.cell? ⟨g, off + j, none⟩ = some (.int .i64 (xs.getD j 0))
theorem Grow1.rowI {w wr : World} {v : Value} {k : Nat} {xs : List Int} (h : Grow1 w wr 3 v k (ci xs)) : ∃ g cap, v = .slice (some ⟨g, 0, none⟩) xs.length cap ∧ w.heap.size ≤ g ∧ RowI wr g 0 xs := by
  obtain ⟨⟨h1, hne⟩, _⟩ := h
  have hl : xs.length = k := by have := h1.1; simpa [ci] using this
  rcases h1.2 with ⟨rfl, rfl⟩ | ⟨g, cap, cur, rfl, hb, hg, _⟩
  · exact absurd rfl hne
  · subst hl
    refine ⟨g, cap, rfl, hb, (Array.getElem?_eq_some_iff.1 hg).1, fun j hj => ?_⟩
    have hc := h1.cells (g := g) rfl j (.int .i64 (xs.getD j 0)) (by simp [ci, List.getElem?_eq_getElem hj, List.getD_eq_getElem?_getD])
    rw [add_plain] at hc
    rw [Nat.zero_add]
    exact hc
def ordI (size : Nat) (little : Bool) : List Int := (order size little).map Int.ofNat
set_option maxRecDepth 100000 in
set_option maxHeartbeats 2000000 in
theorem bitOrder (size : Nat) (little : Bool) (w : World) (hs : size ≤ 49) :
    Calls Try.prog 69 #[.int .i64 size, .bool little] w fun e w' => ∃ g cap, e = .returned (.slice (some ⟨g, 0, none⟩) size cap) ∧ w.heap.size ≤ g ∧ RowI w' g 0 (ordI size little) ∧ Below w.heap.size w w' := by
  obtain ⟨j0, hj, jz0, jz1, jz2⟩ := info_parts infoInt
  have HJ := Aside.mk hj
  have hol := order_length size little hs
  have HOL := Aside.mk hol
  clear hj hol
  cases little
  · go_enter Try.func69, Try.ntmps69
    go_wp2_with fail
    go_loopw [5, 6] (fun ov i wr => ∃ (m : Nat) (xs : List Nat), m ≤ size ∧ i = .int .i64 ((m : Int) - 1) ∧ Aside (xs ++ down 0 m = order size false) ∧ Aside (xs.length + m = size) ∧ Aside (Grow1 w wr 3 ov xs.length (ci (xs.map Int.ofNat)))) (fun _ i _ => (intOf i + 1).toNat)
    case atStart => exact ⟨size, [], Nat.le_refl _, rfl, ⟨rfl⟩, ⟨by simp⟩, ⟨Grow1.start w _⟩⟩
    case round =>
      obtain ⟨m, xs, hm, rfl, hx, hl, hg⟩ := hrel
      obtain _ | m := m
      · go_wp2_with fail
        obtain ⟨g2, cap2, rfl, hge, hr2⟩ := hg.out.rowI
        have hn : (xs.map Int.ofNat) = ordI size false := by
          have := hx.out
          rw [down, List.append_nil] at this
          rw [ordI, ← this]
        have hlen : (ordI size false).length = size := by rw [ordI, List.length_map]; exact HOL.out
        rw [hn] at hr2 ⊢
        rw [hlen]
        have hb2 := Aside.mk hg.out.2
        go_wp2
        go_ret
        exact ⟨g2, cap2, rfl, hge, hr2, hb2.out⟩
      · have e1 : ((m + 1 : Nat) : Int) - 1 = m := by omega
        rw [e1]
        have hsz := hg.out.2.size
        have hl2 := hl.out
        go_wp2_with (at_builtin; refine wpList_append_own _ rfl _ _ 30 rfl (w.heap.size) 3 j0 (.int .i64 0) 1 8 Try.underlying30 HJ.out jz0 jz1 jz2 rfl (by decide) _ _ _ rfl ((hg.out.1.1).alloc _) ⟨wr.heap.size, 0, none⟩ 1 1 [.int .i64 ((m : Int))] rfl rfl (one_at wr.heap.size _ wr 3 rfl) ?c2 ?c3 ?c4 ?c5 ?_)
        case c2 => intro u hu; simp at hu; subst hu; rfl
        case c3 => unfold maxLen; omega
        case c4 => omega
        case c5 => rw [Blk.alloc_size]; omega
        intro v' w1 hown' hgrow hnn
        have hmap : xs.map Int.ofNat ++ [(m : Int)] = (xs ++ [m]).map Int.ofNat := by simp
        have R := hg.out.next _ hown' hnn hgrow
        rw [ci_snoc, hmap] at R
        have hlen : (xs ++ [m]).length = xs.length + 1 := by simp
        rw [← hlen] at R
        have R := Aside.mk R
        have hx2 := hx.out
        rw [down, Nat.zero_add, List.append_cons] at hx2
        have HX := Aside.mk hx2
        have HL2 : Aside ((xs ++ [m]).length + m = size) := ⟨by rw [hlen]; omega⟩
        clear hown' hgrow hg hx hx2 hmap hlen
        go_wp2_with fail
        go_roundw
        case rel => exact ⟨m, xs ++ [m], by omega, by go_num, HX, HL2, R⟩
        case measure => first | (simp [intOf]; done) | (simp [intOf]; omega)
  · go_enter Try.func69, Try.ntmps69
    go_wp2_with fail
    go_loopw [5, 7, 8] (fun ov at_ i wr => ∃ (d : Nat) (xs : List Nat), d ≤ 7 ∧ at_ = .int .i64 (8 * (7 - d : Nat) : Nat) ∧ Aside (xs ++ ordL size d = order size true) ∧ Aside (Grow1 w wr 3 ov xs.length (ci (xs.map Int.ofNat)))) (fun _ a _ _ => (56 - intOf a).toNat)
    case atStart => exact ⟨7, [], Nat.le_refl _, rfl, ⟨rfl⟩, ⟨Grow1.start w _⟩⟩
    case round =>
      obtain ⟨d, xs, hd, rfl, hx, hg⟩ := hrel
      by_cases hlt : 8 * (7 - d) < size
      · obtain ⟨d, rfl⟩ : ∃ d', d = d' + 1 := ⟨d - 1, by omega⟩
        obtain ⟨q, hq⟩ : ∃ q, q = 8 * (7 - (d + 1)) := ⟨_, rfl⟩
        have hx2 := hx.out
        rw [ordL, show 8 * (6 - d) = q by omega] at hx2
        rw [← hq] at hlt ⊢
        have HQ := Aside.mk hq
        have HX := Aside.mk hx2
        clear hx hx2 hq
        by_cases hmin : (q : Int) + 8 ≤ size
        all_goals
          go_wp2_with fail
          go_loopw [5, 8] (fun ov i wr => ∃ (m : Nat) (xs : List Nat), m ≤ min 8 (size - q) ∧ i = .int .i64 ((q + m : Nat) - 1 : Int) ∧ Aside (xs ++ (down q m ++ ordL size d) = order size true) ∧ Aside (Grow1 w wr 3 ov xs.length (ci (xs.map Int.ofNat)))) (fun _ i _ => (intOf i + 1 - q).toNat)
          case atStart =>
            exact ⟨min 8 (size - q), xs, Nat.le_refl _, by (congr 1; omega), HX, hg⟩
          case round =>
            clear hg HX xs
            obtain ⟨m, xs, hm, rfl, hx, hg⟩ := hrel
            obtain _ | m := m
            · have hx2 := hx.out
              rw [down, List.nil_append] at hx2
              have HX := Aside.mk hx2
              clear hx hx2
              go_wp2_with fail
              go_roundw
              case rel => exact ⟨d, xs, by omega, by (congr 1; have := HQ.out; omega), HX, hg⟩
              case measure => first | (simp [intOf]; done) | (simp [intOf]; have := HQ.out; omega)
            · have e1 : ((q + (m + 1) : Nat) - 1 : Int) = (q + m : Nat) := by omega
              rw [e1]
              have hx2 := hx.out
              rw [down, List.cons_append, List.append_cons] at hx2
              have HX := Aside.mk hx2
              have hsz := hg.out.2.size
              have hxl : xs.length ≤ 49 := by
                have := congrArg List.length hx2
                rw [HOL.out] at this
                simp at this
                omega
              clear hx hx2
              go_wp2_with (at_builtin; refine wpList_append_own _ rfl _ _ 30 rfl (w.heap.size) 3 j0 (.int .i64 0) 1 8 Try.underlying30 HJ.out jz0 jz1 jz2 rfl (by decide) _ _ _ rfl ((hg.out.1.1).alloc _) ⟨wr.heap.size, 0, none⟩ 1 1 [.int .i64 (((q + m : Nat) : Int))] rfl rfl (one_at wr.heap.size _ wr 3 rfl) ?c2 ?c3 ?c4 ?c5 ?_)
              case c2 => intro u hu; simp at hu; subst hu; rfl
              case c3 => unfold maxLen; omega
              case c4 => omega
              case c5 => rw [Blk.alloc_size]; omega
              intro v' w1 hown' hgrow hnn
              have hmap : xs.map Int.ofNat ++ [(q : Int) + (m : Int)] = (xs ++ [q + m]).map Int.ofNat := by simp
              have R := hg.out.next _ hown' hnn hgrow
              rw [ci_snoc, hmap] at R
              have hlen : (xs ++ [q + m]).length = xs.length + 1 := by simp
              rw [← hlen] at R
              have R := Aside.mk R
              clear hown' hgrow hg hmap hlen
              go_wp2_with fail
              go_roundw
              case rel => exact ⟨m, xs ++ [q + m], by omega, by go_num, HX, R⟩
              case measure => first | (simp [intOf]; done) | (simp [intOf]; omega)
      · go_wp2_with fail
        have hn : (xs.map Int.ofNat) = ordI size true := by
          have := hx.out
          rw [ordL_nil size d (by omega) hd, List.append_nil] at this
          rw [ordI, ← this]
        have hlen : (ordI size true).length = size := by rw [ordI, List.length_map]; exact HOL.out
        obtain ⟨g2, cap2, rfl, hge, hr2⟩ := hg.out.rowI
        rw [hn] at hr2 ⊢
        rw [hlen]
        have hb2 := Aside.mk hg.out.2
        go_wp2
        go_ret
        exact ⟨g2, cap2, rfl, hge, hr2, hb2.out⟩
end Go.Proofs.Ytjjnlbimegabpaa.Fn

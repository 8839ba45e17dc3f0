/- Walk of the program's hears, state 4. Conditions: those of each theorem. -/
import Derived.Test.YtlopbheahedofaaDoorHs3
set_option linter.unusedVariables false
namespace Go.Proofs.YtlopbheahedofaaDoor.Fn
open Go Go.RowKit Go.Proofs.YtlopbheahedofaaDoor.Lib Go.Proofs.YtlopbheahedofaaDoor.Plan
attribute [local go_sem] look_tmp look_const look_func look_global lookT_nil lookT_hit lookT_miss

theorem four_iff {data : ByteArray} {c : UInt8} {k k2 : Nat} {b b2 : Bool} {v : Int} (h : (b = false ∧ k = 1 ∧ headIs data c = true) ∨ (b = true ∧ headIs data c = false)) (hn : NumAny data k 4 b v k2 b2) :
    (!b2 && decide (k2 = data.size)) = (headIs data c && decide (data.size = 5)) ∧ ((!b2 && decide (k2 = data.size)) = true → v = numB (data.extract 1 5)) := by
  rcases h with ⟨rfl, rfl, hh⟩ | ⟨rfl, hh⟩
  · rcases hn with ⟨-, h2, h3, h4, rfl⟩ | ⟨h2, h3, h4, rfl⟩
    · subst h4
      rw [hh]
      refine ⟨?_, fun _ => h3⟩
      simp only [Bool.not_false, Bool.true_and]
      exact decide_eq_decide.2 (by omega)
    · rw [hh]
      have : ¬ data.size = 5 := fun e => h2 ⟨rfl, by omega⟩
      simp [this]
  · rcases hn with ⟨h1, -⟩ | ⟨-, -, -, rfl⟩
    · cases h1
    · rw [hh]; simp
set_option maxRecDepth 100000 in
set_option maxHeartbeats 8000000 in
theorem hears4 (name cookie : ByteArray) (flags mine : Int) (calls peer : ByteArray) (both : Int) (data : ByteArray) (w : World) (hn : name.size ≤ 1048576) (hc : cookie.size ≤ 100) (hf0 : 0 ≤ flags) (hf1 : flags ≤ 65535) (hm0 : 0 ≤ mine) (hm1 : mine ≤ 4294967295) (hd : data.size ≤ 1048576) (htab : Go.Lib.TabIs Tryd.prog w "internal/strconv.uint64pow10" .u64 Go.Lib.pow10Tab) :
    Calls Tryd.prog 27 #[.agg #[.int .i64 4, .string name, .string cookie, .int .i64 flags, .int .i64 mine, .string calls, .string peer, .int .i64 both], .string data] w (HearsOK w (hearsR 4 name cookie flags mine calls peer both data)) := by
  have E0 : Aside (hearsR 4 name cookie flags mine calls peer both data = if headIs data 97 && decide (data.size = 5) && decide (numB (data.extract 1 5) = digV cookie mine) then ((5, name, cookie, flags, mine, calls, peer, both), []) else ((6, name, cookie, flags, mine, calls, peer, both), [])) := ⟨rfl⟩
  generalize hearsR 4 name cookie flags mine calls peer both data = r at E0 ⊢
  have HT := Aside.mk htab
  clear htab
  go_enter Tryd.func27, Tryd.ntmps27
  go_wp2_with fail
  obtain ⟨w3, hw3⟩ : ∃ x, x = ((w.alloc (.cells #[.int .i64 4, .string name, .string cookie, .int .i64 flags, .int .i64 mine, .string calls, .string peer, .int .i64 both] 27)).alloc (.cells #[.int .i64 0, .string ⟨#[]⟩, .string ⟨#[]⟩, .int .i64 0, .int .i64 0, .string ⟨#[]⟩, .string ⟨#[]⟩, .int .i64 0] 27)).alloc (.cells #[.int .i64 6, .string name, .string cookie, .int .i64 flags, .int .i64 mine, .string calls, .string peer, .int .i64 both] 27) := ⟨_, rfl⟩
  rw [← hw3]
  have K2 : Aside (Blk w3 w.heap.size 27 [.int .i64 4, .string name, .string cookie, .int .i64 flags, .int .i64 mine, .string calls, .string peer, .int .i64 both]) := ⟨by rw [hw3]; exact ((Blk.new w 27 [.int .i64 4, .string name, .string cookie, .int .i64 flags, .int .i64 mine, .string calls, .string peer, .int .i64 both]).alloc _).alloc _⟩
  have K4 : Aside (Blk w3 (w.heap.size + 1) 27 [.int .i64 0, .string ⟨#[]⟩, .string ⟨#[]⟩, .int .i64 0, .int .i64 0, .string ⟨#[]⟩, .string ⟨#[]⟩, .int .i64 0]) := ⟨by rw [hw3]; exact (Blk.made (w.alloc _) 27 [.int .i64 0, .string ⟨#[]⟩, .string ⟨#[]⟩, .int .i64 0, .int .i64 0, .string ⟨#[]⟩, .string ⟨#[]⟩, .int .i64 0] (by simp)).alloc _⟩
  have K6 : Aside (Blk w3 (w.heap.size + 2) 27 [.int .i64 6, .string name, .string cookie, .int .i64 flags, .int .i64 mine, .string calls, .string peer, .int .i64 both]) := ⟨by rw [hw3]; exact Blk.made ((w.alloc _).alloc _) 27 [.int .i64 6, .string name, .string cookie, .int .i64 flags, .int .i64 mine, .string calls, .string peer, .int .i64 both] (by simp)⟩
  have BL : Aside (Below w.heap.size w w3) := ⟨by rw [hw3]; go_grown⟩
  clear hw3
  refine (hear data 97 w3 (by omega)).mono ?_
  rintro e w4 ⟨rfl, hb, k, b, hk, hks, hkb⟩
  obtain ⟨g, hgd⟩ : ∃ g, g = w3.heap.size := ⟨_, rfl⟩
  have hg3 : w.heap.size + 3 ≤ g := by have := K6.out.lt; omega
  rw [← hgd] at hk ⊢
  have HG := Aside.mk hk
  have K2n := Aside.mk (K2.out.below hb)
  have K4n := Aside.mk (K4.out.below hb)
  have K6n := Aside.mk (K6.out.below hb)
  have BLn := Aside.mk (below_later BL.out hb)
  clear K2 K4 K6 BL
  have K2 := K2n
  have K4 := K4n
  have K6 := K6n
  have BL := BLn
  clear BLn K2n K4n K6n
  clear hb hk hgd
  go_wp2_with fail
  refine (number_any g _ data k 4 b _ _ _ HG.out hks (by omega) (by omega)).mono ?_
  rintro e w5 ⟨v, k2, b2, rfl, hg, hb2, hk2, hn2⟩
  obtain ⟨f1, f2⟩ := four_iff hkb hn2
  have HG2 := Aside.mk hb2
  clear hkb hn2 hb2 HG
  have K2n : Aside (Blk w5 w.heap.size _ _) := ⟨K2.out.grown hg (by intro e; injection e with e; omega)⟩
  have K4n : Aside (Blk w5 (w.heap.size + 1) _ _) := ⟨K4.out.grown hg (by intro e; injection e with e; omega)⟩
  have K6n : Aside (Blk w5 (w.heap.size + 2) _ _) := ⟨K6.out.grown hg (by intro e; injection e with e; omega)⟩
  have BLn := Aside.mk (below_grown BL.out hg (by omega))
  clear K2 K4 K6 BL
  have K2 := K2n
  have K4 := K4n
  have K6 := K6n
  have BL := BLn
  clear BLn K2n K4n K6n
  clear hg
  go_wp2_with fail
  refine (fine g data k2 b2 _ _ w5 HG2.out (by omega)).mono ?_
  rintro e w6 ⟨rfl, hb⟩
  have K2n := Aside.mk (K2.out.below hb)
  have K4n := Aside.mk (K4.out.below hb)
  have K6n := Aside.mk (K6.out.below hb)
  have BLn := Aside.mk (below_later BL.out hb)
  clear K2 K4 K6 BL
  have K2 := K2n
  have K4 := K4n
  have K6 := K6n
  have BL := BLn
  clear BLn K2n K4n K6n
  clear hb HG2
  rw [← f1] at E0
  clear f1
  generalize (!b2 && decide (k2 = data.size)) = F at E0 f2 ⊢
  cases F
  · have E : Aside (r = ((6, name, cookie, flags, mine, calls, peer, both), [])) := ⟨by rw [E0.out]; rfl⟩
    clear E0 f2
    have v0 := K6.out.cell 0
    have v1 := K6.out.cell 1
    have v2 := K6.out.cell 2
    have v3 := K6.out.cell 3
    have v4 := K6.out.cell 4
    have v5 := K6.out.cell 5
    have v6 := K6.out.cell 6
    have v7 := K6.out.cell 7
    simp only [List.getElem?_cons_zero, List.getElem?_cons_succ] at v0 v1 v2 v3 v4 v5 v6 v7
    go_wp2_with (refine wpList_store_blk rfl 27 _ _ rfl (w.heap.size + 1) [.int .i64 6, .string name, .string cookie, .int .i64 flags, .int .i64 mine, .string calls, .string peer, .int .i64 both] rfl rfl 27 [.int .i64 0, .string ⟨#[]⟩, .string ⟨#[]⟩, .int .i64 0, .int .i64 0, .string ⟨#[]⟩, .string ⟨#[]⟩, .int .i64 0] K4.out (by kernel_rfl) rfl rfl ?_; intro w9 k9 hg9; have K9 := Aside.mk k9; have B9 := Aside.mk (below_grown BL.out hg9 (by omega)); clear k9 hg9)
    refine bodyPost_ret (res_ct rfl _ _ (w.heap.size + 1) 27 [.int .i64 6, .string name, .string cookie, .int .i64 flags, .int .i64 mine, .string calls, .string peer, .int .i64 both] _ rfl K9.out Tryd.underlying27 rfl (by kernel_rfl)) rfl ⟨_, by rw [E.out], by rw [E.out]; exact strs_none _ _, B9.out⟩
  have hv := f2 rfl
  rw [← hv] at E0
  have HT6 := Aside.mk (tab_below HT.out BL.out)
  clear f2 hv
  have u0 := K2.out.cell 0
  have u1 := K2.out.cell 1
  have u2 := K2.out.cell 2
  have u3 := K2.out.cell 3
  have u4 := K2.out.cell 4
  have u5 := K2.out.cell 5
  have u6 := K2.out.cell 6
  have u7 := K2.out.cell 7
  simp only [List.getElem?_cons_zero, List.getElem?_cons_succ] at u0 u1 u2 u3 u4 u5 u6 u7
  go_wp2_with fail
  refine (iDigest cookie mine w6 (by omega) (by omega) (by omega) HT6.out).mono ?_
  rintro e w7 ⟨rfl, hb⟩
  clear u0 u1 u2 u3 u4 u5 u6 u7
  have K2n := Aside.mk (K2.out.below hb)
  have K4n := Aside.mk (K4.out.below hb)
  have K6n := Aside.mk (K6.out.below hb)
  have BLn := Aside.mk (below_later BL.out hb)
  clear K2 K4 K6 BL
  have K2 := K2n
  have K4 := K4n
  have K6 := K6n
  have BL := BLn
  clear BLn K2n K4n K6n
  clear hb
  generalize digV cookie mine = dg at E0 ⊢
  by_cases he : v = dg
  · have E : Aside (r = ((5, name, cookie, flags, mine, calls, peer, both), [])) := ⟨by rw [E0.out, decide_eq_true he]; rfl⟩
    clear E0
    subst he
    obtain ⟨w8, hw8⟩ : ∃ x, x = w7.setCell ⟨w.heap.size, 0, none⟩ (.int .i64 5) := ⟨_, rfl⟩
    have K28 : Aside (Blk w8 w.heap.size 27 [.int .i64 5, .string name, .string cookie, .int .i64 flags, .int .i64 mine, .string calls, .string peer, .int .i64 both]) := ⟨by rw [hw8]; exact K2.out.set 0 _⟩
    have K48 : Aside (Blk w8 (w.heap.size + 1) 27 [.int .i64 0, .string ⟨#[]⟩, .string ⟨#[]⟩, .int .i64 0, .int .i64 0, .string ⟨#[]⟩, .string ⟨#[]⟩, .int .i64 0]) := ⟨by rw [hw8]; exact K4.out.far (show w.heap.size + 1 ≠ w.heap.size by omega) _⟩
    have BL8 : Aside (Below w.heap.size w w8) := ⟨by rw [hw8]; exact BL.out.setCell (Nat.le_refl _) _⟩
    have u0 := K2.out.cell 0
    have u1 := K2.out.cell 1
    have u2 := K2.out.cell 2
    have u3 := K2.out.cell 3
    have u4 := K2.out.cell 4
    have u5 := K2.out.cell 5
    have u6 := K2.out.cell 6
    have u7 := K2.out.cell 7
    simp only [List.getElem?_cons_zero, List.getElem?_cons_succ] at u0 u1 u2 u3 u4 u5 u6 u7
    have f0 := K2.out.free 0
    have x0 := K28.out.cell 0
    have x1 := K28.out.cell 1
    have x2 := K28.out.cell 2
    have x3 := K28.out.cell 3
    have x4 := K28.out.cell 4
    have x5 := K28.out.cell 5
    have x6 := K28.out.cell 6
    have x7 := K28.out.cell 7
    simp only [List.getElem?_cons_zero, List.getElem?_cons_succ] at x0 x1 x2 x3 x4 x5 x6 x7
    rw [hw8] at x0 x1 x2 x3 x4 x5 x6 x7
    have HW8 := Aside.mk hw8
    clear hw8 K4 BL K2 K6
    have K4 := K48
    have BL := BL8
    rw [HW8.out] at K4 BL
    clear K48 BL8
    go_wp2_with (refine wpList_store_blk rfl 27 _ _ rfl (w.heap.size + 1) [.int .i64 5, .string name, .string cookie, .int .i64 flags, .int .i64 mine, .string calls, .string peer, .int .i64 both] rfl rfl 27 [.int .i64 0, .string ⟨#[]⟩, .string ⟨#[]⟩, .int .i64 0, .int .i64 0, .string ⟨#[]⟩, .string ⟨#[]⟩, .int .i64 0] K4.out (by kernel_rfl) rfl rfl ?_; intro w9 k9 hg9; have K9 := Aside.mk k9; have B9 := Aside.mk (below_grown BL.out hg9 (by omega)); clear k9 hg9)
    refine bodyPost_ret (res_ct rfl _ _ (w.heap.size + 1) 27 [.int .i64 5, .string name, .string cookie, .int .i64 flags, .int .i64 mine, .string calls, .string peer, .int .i64 both] _ rfl K9.out Tryd.underlying27 rfl (by kernel_rfl)) rfl ⟨_, by rw [E.out], by rw [E.out]; exact strs_none _ _, B9.out⟩
  have heb : (v == dg) = false := by simpa using he
  have E : Aside (r = ((6, name, cookie, flags, mine, calls, peer, both), [])) := ⟨by rw [E0.out, decide_eq_false he, Bool.and_false]; rfl⟩
  clear E0
  have v0 := K6.out.cell 0
  have v1 := K6.out.cell 1
  have v2 := K6.out.cell 2
  have v3 := K6.out.cell 3
  have v4 := K6.out.cell 4
  have v5 := K6.out.cell 5
  have v6 := K6.out.cell 6
  have v7 := K6.out.cell 7
  simp only [List.getElem?_cons_zero, List.getElem?_cons_succ] at v0 v1 v2 v3 v4 v5 v6 v7
  go_wp2_with (refine wpList_store_blk rfl 27 _ _ rfl (w.heap.size + 1) [.int .i64 6, .string name, .string cookie, .int .i64 flags, .int .i64 mine, .string calls, .string peer, .int .i64 both] rfl rfl 27 [.int .i64 0, .string ⟨#[]⟩, .string ⟨#[]⟩, .int .i64 0, .int .i64 0, .string ⟨#[]⟩, .string ⟨#[]⟩, .int .i64 0] K4.out (by kernel_rfl) rfl rfl ?_; intro w9 k9 hg9; have K9 := Aside.mk k9; have B9 := Aside.mk (below_grown BL.out hg9 (by omega)); clear k9 hg9)
  refine bodyPost_ret (res_ct rfl _ _ (w.heap.size + 1) 27 [.int .i64 6, .string name, .string cookie, .int .i64 flags, .int .i64 mine, .string calls, .string peer, .int .i64 both] _ rfl K9.out Tryd.underlying27 rfl (by kernel_rfl)) rfl ⟨_, by rw [E.out], by rw [E.out]; exact strs_none _ _, B9.out⟩
end Go.Proofs.YtlopbheahedofaaDoor.Fn

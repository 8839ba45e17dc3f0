/- Walk of the program's hears, state 3. Conditions: those of each theorem. -/
import Derived.Test.YtlopbheahedofaaDoorHs4
import Derived.Test.YtlopbheahedofaaDoorPlanU
set_option linter.unusedVariables false
namespace Go.Proofs.YtlopbheahedofaaDoor.Fn
open Go Go.RowKit Go.Proofs.YtlopbheahedofaaDoor.Lib Go.Proofs.YtlopbheahedofaaDoor.Plan
attribute [local go_sem] look_tmp look_const look_func look_global lookT_nil lookT_hit lookT_miss

theorem nine_iff {data : ByteArray} {c : UInt8} {k k2 k3 : Nat} {b b2 b3 : Bool} {v u : Int} (h : (b = false ∧ k = 1 ∧ headIs data c = true) ∨ (b = true ∧ headIs data c = false)) (hn : NumAny data k 4 b v k2 b2) (hm : NumAny data k2 4 b2 u k3 b3) :
    (!b3 && decide (k3 = data.size)) = (headIs data c && decide (data.size = 9)) ∧ ((!b3 && decide (k3 = data.size)) = true → v = numB (data.extract 1 5) ∧ u = numB (data.extract 5 9)) := by
  rcases h with ⟨rfl, rfl, hh⟩ | ⟨rfl, hh⟩
  · rcases hn with ⟨-, h2, h3, h4, rfl⟩ | ⟨h2, h3, h4, rfl⟩
    · subst h4
      rcases hm with ⟨-, h5, h6, h7, rfl⟩ | ⟨h5, h6, h7, rfl⟩
      · subst h7
        rw [hh]
        refine ⟨?_, fun _ => ⟨h3, h6⟩⟩
        simp only [Bool.not_false, Bool.true_and]
        exact decide_eq_decide.2 (by omega)
      · rw [hh]
        have : ¬ data.size = 9 := fun e => h5 ⟨rfl, by omega⟩
        simp [this]
    · rw [hh]
      have : ¬ data.size = 9 := fun e => h2 ⟨rfl, by omega⟩
      rcases hm with ⟨h5, -⟩ | ⟨-, -, -, rfl⟩
      · cases h5
      · simp [this]
  · rcases hn with ⟨h1, -⟩ | ⟨-, -, -, rfl⟩
    · cases h1
    · rcases hm with ⟨h5, -⟩ | ⟨-, -, -, rfl⟩
      · cases h5
      · rw [hh]; simp
theorem but_drewn {S : Nat → Prop} {a b : World} (h : But S a b) : But S a b.drew := ⟨h.os, h.tape, h.output, h.size, h.block⟩
theorem But.cell {G : Nat → Prop} {w w' : World} {b o : Nat} (h : But G w w') (hlt : b < w.heap.size) (hg : ¬ G b) : w'.cell? ⟨b, o, none⟩ = w.cell? ⟨b, o, none⟩ := World.cell?_of_block (w := w) (h.block b hlt hg)
theorem extract_size' (d : ByteArray) (a b : Nat) : (d.extract a b).size = min b d.size - a := by rw [ByteArray.size_extract]
theorem digV_range (c : ByteArray) (n : Int) : 0 ≤ digV c n ∧ digV c n < 4294967296 := by
  unfold digV
  split
  · exact hash_range _
  · omega
set_option maxRecDepth 100000 in
set_option maxHeartbeats 8000000 in
theorem hears3 (name cookie : ByteArray) (flags mine : Int) (calls peer : ByteArray) (both : Int) (data : ByteArray) (w : World) (hn : name.size ≤ 1048576) (hc : cookie.size ≤ 100) (hf0 : 0 ≤ flags) (hf1 : flags ≤ 65535) (hm0 : 0 ≤ mine) (hm1 : mine ≤ 4294967295) (hd : data.size ≤ 1048576) (htab : Go.Lib.TabIs Tryd.prog w "internal/strconv.uint64pow10" .u64 Go.Lib.pow10Tab) :
    Calls Tryd.prog 27 #[.agg #[.int .i64 3, .string name, .string cookie, .int .i64 flags, .int .i64 mine, .string calls, .string peer, .int .i64 both], .string data] w (HearsOK w (hearsR 3 name cookie flags mine calls peer both data)) := by
  have E0 : Aside (hearsR 3 name cookie flags mine calls peer both data = if headIs data 114 && decide (data.size = 9) && decide (numB (data.extract 5 9) = digV cookie mine) then ((5, name, cookie, flags, mine, calls, peer, both), [⟨#[97]⟩ ++ bes 4 (digV cookie (numB (data.extract 1 5)))]) else ((6, name, cookie, flags, mine, calls, peer, both), [])) := ⟨rfl⟩
  generalize hearsR 3 name cookie flags mine calls peer both data = r at E0 ⊢
  have HT := Aside.mk htab
  clear htab
  go_enter Tryd.func27, Tryd.ntmps27
  go_wp2_with fail
  obtain ⟨w3, hw3⟩ : ∃ x, x = ((w.alloc (.cells #[.int .i64 3, .string name, .string cookie, .int .i64 flags, .int .i64 mine, .string calls, .string peer, .int .i64 both] 27)).alloc (.cells #[.int .i64 0, .string ⟨#[]⟩, .string ⟨#[]⟩, .int .i64 0, .int .i64 0, .string ⟨#[]⟩, .string ⟨#[]⟩, .int .i64 0] 27)).alloc (.cells #[.int .i64 6, .string name, .string cookie, .int .i64 flags, .int .i64 mine, .string calls, .string peer, .int .i64 both] 27) := ⟨_, rfl⟩
  rw [← hw3]
  have K2 : Aside (Blk w3 w.heap.size 27 [.int .i64 3, .string name, .string cookie, .int .i64 flags, .int .i64 mine, .string calls, .string peer, .int .i64 both]) := ⟨by rw [hw3]; exact ((Blk.new w 27 [.int .i64 3, .string name, .string cookie, .int .i64 flags, .int .i64 mine, .string calls, .string peer, .int .i64 both]).alloc _).alloc _⟩
  have K4 : Aside (Blk w3 (w.heap.size + 1) 27 [.int .i64 0, .string ⟨#[]⟩, .string ⟨#[]⟩, .int .i64 0, .int .i64 0, .string ⟨#[]⟩, .string ⟨#[]⟩, .int .i64 0]) := ⟨by rw [hw3]; exact (Blk.made (w.alloc _) 27 [.int .i64 0, .string ⟨#[]⟩, .string ⟨#[]⟩, .int .i64 0, .int .i64 0, .string ⟨#[]⟩, .string ⟨#[]⟩, .int .i64 0] (by simp)).alloc _⟩
  have K6 : Aside (Blk w3 (w.heap.size + 2) 27 [.int .i64 6, .string name, .string cookie, .int .i64 flags, .int .i64 mine, .string calls, .string peer, .int .i64 both]) := ⟨by rw [hw3]; exact Blk.made ((w.alloc _).alloc _) 27 [.int .i64 6, .string name, .string cookie, .int .i64 flags, .int .i64 mine, .string calls, .string peer, .int .i64 both] (by simp)⟩
  have BL : Aside (Below w.heap.size w w3) := ⟨by rw [hw3]; go_grown⟩
  clear hw3
  refine (hear data 114 w3 (by omega)).mono ?_
  rintro e w4 ⟨rfl, hb, k, b, hk, hks, hkb⟩
  obtain ⟨g, hgd⟩ : ∃ g, g = w3.heap.size := ⟨_, rfl⟩
  have hg3 : w.heap.size + 3 ≤ g := by have := K6.out.lt; omega
  rw [← hgd] at hk ⊢
  have HG := Aside.mk hk
  have K2n := Aside.mk (K2.out.below hb)
  have K4n := Aside.mk (K4.out.below hb)
  have K6n := Aside.mk (K6.out.below hb)
  have BLn := Aside.mk (below_later BL.out hb)
  clear K2 K4 K6 BL
  have K2 := K2n
  have K4 := K4n
  have K6 := K6n
  have BL := BLn
  clear BLn K2n K4n K6n
  clear hb hk hgd
  go_wp2_with fail
  have K2d : Aside (Blk w4.drew w.heap.size _ _) := ⟨K2.out⟩
  have K4d : Aside (Blk w4.drew (w.heap.size + 1) _ _) := ⟨K4.out⟩
  have K6d : Aside (Blk w4.drew (w.heap.size + 2) _ _) := ⟨K6.out⟩
  have BLd := Aside.mk BL.out.drew
  clear K2 K4 K6 BL
  have K2 := K2d
  have K4 := K4d
  have K6 := K6d
  have BL := BLd
  clear K2d K4d K6d BLd
  refine region_env [(0, true), (1, true), (2, true), (4, true), (5, true), (6, true), (3, false), (7, false), (8, true), (9, true)] (fun _ => True) 195 rfl (by kernel_rfl) (by kernel_rfl) (fun _ _ d _ _ h => by cases d <;> exact h) (trivial) (fun ops fr HFR HSZ hl => ?_)
  have hl_0 := ops_start hl
  clear hl
  obtain ⟨H0, hl_1⟩ := ops_next 0 1 rfl hl_0
  clear hl_0
  obtain ⟨H1, hl_2⟩ := ops_next 1 2 rfl hl_1
  clear hl_1
  obtain ⟨H2, hl_3⟩ := ops_next 2 3 rfl hl_2
  clear hl_2
  obtain ⟨H3, hl_4⟩ := ops_next 3 4 rfl hl_3
  clear hl_3
  obtain ⟨H4, hl_5⟩ := ops_next 4 5 rfl hl_4
  clear hl_4
  obtain ⟨H5, hl_6⟩ := ops_next 5 6 rfl hl_5
  clear hl_5
  obtain ⟨H6, hl_7⟩ := ops_next 6 7 rfl hl_6
  clear hl_6
  obtain ⟨H7, hl_8⟩ := ops_next 7 8 rfl hl_7
  clear hl_7
  obtain ⟨H8, hl_9⟩ := ops_next 8 9 rfl hl_8
  clear hl_8
  obtain ⟨H9, hl_10⟩ := ops_next 9 10 rfl hl_9
  clear hl_9
  clear hl_10
  have x_15 : ext fr 15 = _ := congrArg (fun a => Act.eval a (.tmp 15)) HFR.out
  conv at x_15 => rhs; simp only [Act.eval, Array.getD_eq_getD_getElem?, List.getElem?_toArray, List.getElem?_cons_succ, List.getElem?_cons_zero, Option.getD_some]
  refine env_yes HSZ H0.out ?_ (fun w' hS => ?_) ?_
  rotate_left
  (go_simp
   rfl)
  refine env_yes HSZ H1.out ?_ (fun w' hS => ?_) ?_
  rotate_left
  (go_simp
   rfl)
  refine env_yes HSZ H2.out ?_ (fun w' hS => ?_) ?_
  rotate_left
  (go_simp
   rfl)
  refine env_yes HSZ H4.out ?_ (fun w' hS => ?_) ?_
  rotate_left
  (go_simp
   rfl)
  refine env_yes HSZ H5.out ?_ (fun w' hS => ?_) ?_
  rotate_left
  (go_simp
   rfl)
  refine env_yes HSZ H6.out ?_ (fun w' hS => ?_) ?_
  rotate_left
  (go_simp
   rfl)
  refine env_call HSZ H3.out ?_ ?_ ?_ ?_
  rotate_left 2
  (go_simp
   first | rfl | (constructor <;> rfl))
  refine (number_any g _ data k 4 b _ _ w4.drew (show Blk w4.drew g _ _ from HG.out) hks (by omega) (by omega)).mono ?_
  rintro e w5 ⟨v, k2, b2, rfl, hg, hb2, hk2, hn2⟩
  have HG2 := Aside.mk hb2
  clear hb2 HG
  have K2n : Aside (Blk w5 w.heap.size _ _) := ⟨K2.out.grown hg (by intro e; injection e with e; omega)⟩
  have K4n : Aside (Blk w5 (w.heap.size + 1) _ _) := ⟨K4.out.grown hg (by intro e; injection e with e; omega)⟩
  have K6n : Aside (Blk w5 (w.heap.size + 2) _ _) := ⟨K6.out.grown hg (by intro e; injection e with e; omega)⟩
  have BLn := Aside.mk (below_grown BL.out hg (by omega))
  clear K2 K4 K6 BL
  have K2 := K2n
  have K4 := K4n
  have K6 := K6n
  have BL := BLn
  clear BLn K2n K4n K6n
  clear hg
  refine ⟨_, rfl, trivial, ?_⟩
  refine env_call HSZ H7.out ?_ ?_ ?_ ?_
  rotate_left 2
  (go_simp
   first | rfl | (constructor <;> rfl))
  refine (number_any g _ data k2 4 b2 _ _ w5 (show Blk w5 g _ _ from HG2.out) hk2 (by omega) (by omega)).mono ?_
  rintro e w6 ⟨u, k3, b3, rfl, hg, hb2, hk3, hn3⟩
  have HG3 := Aside.mk hb2
  clear hb2 HG2
  have K2n : Aside (Blk w6 w.heap.size _ _) := ⟨K2.out.grown hg (by intro e; injection e with e; omega)⟩
  have K4n : Aside (Blk w6 (w.heap.size + 1) _ _) := ⟨K4.out.grown hg (by intro e; injection e with e; omega)⟩
  have K6n : Aside (Blk w6 (w.heap.size + 2) _ _) := ⟨K6.out.grown hg (by intro e; injection e with e; omega)⟩
  have BLn := Aside.mk (below_grown BL.out hg (by omega))
  clear K2 K4 K6 BL
  have K2 := K2n
  have K4 := K4n
  have K6 := K6n
  have BL := BLn
  clear BLn K2n K4n K6n
  clear hg
  refine ⟨_, rfl, trivial, ?_⟩
  refine env_yes HSZ H8.out ?_ (fun w' hS => ?_) ?_
  rotate_left
  (go_simp
   rfl)
  refine env_yes HSZ H9.out ?_ (fun w' hS => ?_) ?_
  rotate_left
  (go_simp
   rfl)
  refine env_end ?_
  have hfr := HFR.out
  clear HFR HSZ H0 H1 H2 H3 H4 H5 H6 H7 H8 H9 x_15
  subst hfr
  simp only [putAll, Act.put, List.setIfInBounds_toArray, List.set_cons_succ, List.set_cons_zero]
  obtain ⟨f1, f2⟩ := nine_iff hkb hn2 hn3
  have hvr := numAny_range hn2 (by omega)
  clear hkb hn2 hn3
  go_wp2_with fail
  refine (fine g data k3 b3 _ _ w6 HG3.out (by omega)).mono ?_
  rintro e w7 ⟨rfl, hb⟩
  have K2n := Aside.mk (K2.out.below hb)
  have K4n := Aside.mk (K4.out.below hb)
  have K6n := Aside.mk (K6.out.below hb)
  have BLn := Aside.mk (below_later BL.out hb)
  clear K2 K4 K6 BL
  have K2 := K2n
  have K4 := K4n
  have K6 := K6n
  have BL := BLn
  clear BLn K2n K4n K6n
  clear hb HG3
  rw [← f1] at E0
  clear f1
  generalize (!b3 && decide (k3 = data.size)) = F at E0 f2 ⊢
  cases F
  · have E : Aside (r = ((6, name, cookie, flags, mine, calls, peer, both), [])) := ⟨by rw [E0.out]; rfl⟩
    clear E0 f2
    have v0 := K6.out.cell 0
    have v1 := K6.out.cell 1
    have v2 := K6.out.cell 2
    have v3 := K6.out.cell 3
    have v4 := K6.out.cell 4
    have v5 := K6.out.cell 5
    have v6 := K6.out.cell 6
    have v7 := K6.out.cell 7
    simp only [List.getElem?_cons_zero, List.getElem?_cons_succ] at v0 v1 v2 v3 v4 v5 v6 v7
    go_wp2_with (refine wpList_store_blk rfl 27 _ _ rfl (w.heap.size + 1) [.int .i64 6, .string name, .string cookie, .int .i64 flags, .int .i64 mine, .string calls, .string peer, .int .i64 both] rfl rfl 27 [.int .i64 0, .string ⟨#[]⟩, .string ⟨#[]⟩, .int .i64 0, .int .i64 0, .string ⟨#[]⟩, .string ⟨#[]⟩, .int .i64 0] K4.out (by kernel_rfl) rfl rfl ?_; intro w9 k9 hg9; have K9 := Aside.mk k9; have B9 := Aside.mk (below_grown BL.out hg9 (by omega)); clear k9 hg9)
    refine bodyPost_ret (res_ct rfl _ _ (w.heap.size + 1) 27 [.int .i64 6, .string name, .string cookie, .int .i64 flags, .int .i64 mine, .string calls, .string peer, .int .i64 both] _ rfl K9.out Tryd.underlying27 rfl (by kernel_rfl)) rfl ⟨_, by rw [E.out], by rw [E.out]; exact strs_none _ _, B9.out⟩
  obtain ⟨hv, hu⟩ := f2 rfl
  rw [← hv, ← hu] at E0
  have HT6 := Aside.mk (tab_below HT.out BL.out)
  clear f2 hv hu
  have u0 := K2.out.cell 0
  have u1 := K2.out.cell 1
  have u2 := K2.out.cell 2
  have u3 := K2.out.cell 3
  have u4 := K2.out.cell 4
  have u5 := K2.out.cell 5
  have u6 := K2.out.cell 6
  have u7 := K2.out.cell 7
  simp only [List.getElem?_cons_zero, List.getElem?_cons_succ] at u0 u1 u2 u3 u4 u5 u6 u7
  go_wp2_with fail
  refine (iDigest cookie mine w7 (by omega) (by omega) (by omega) HT6.out).mono ?_
  rintro e w8 ⟨rfl, hb⟩
  clear u0 u1 u2 u3 u4 u5 u6 u7
  have K2n := Aside.mk (K2.out.below hb)
  have K4n := Aside.mk (K4.out.below hb)
  have K6n := Aside.mk (K6.out.below hb)
  have BLn := Aside.mk (below_later BL.out hb)
  clear K2 K4 K6 BL
  have K2 := K2n
  have K4 := K4n
  have K6 := K6n
  have BL := BLn
  clear BLn K2n K4n K6n
  clear hb
  generalize digV cookie mine = dg at E0 ⊢
  by_cases he : u = dg
  · have E : Aside (r = ((5, name, cookie, flags, mine, calls, peer, both), [⟨#[97]⟩ ++ bes 4 (digV cookie v)])) := ⟨by rw [E0.out, decide_eq_true he]; rfl⟩
    clear E0
    subst he
    have u0 := K2.out.cell 0
    have u1 := K2.out.cell 1
    have u2 := K2.out.cell 2
    have u3 := K2.out.cell 3
    have u4 := K2.out.cell 4
    have u5 := K2.out.cell 5
    have u6 := K2.out.cell 6
    have u7 := K2.out.cell 7
    simp only [List.getElem?_cons_zero, List.getElem?_cons_succ] at u0 u1 u2 u3 u4 u5 u6 u7
    have f0 := K2.out.free 0
    go_wp2_with fail
    clear u0 u1 u2 u3 u4 u5 u6 u7 f0
    have K2n : Aside (Blk (w8.setCell ⟨w.heap.size, 0, none⟩ (.int .i64 5)) w.heap.size 27 [.int .i64 5, .string name, .string cookie, .int .i64 flags, .int .i64 mine, .string calls, .string peer, .int .i64 both]) := ⟨K2.out.set 0 _⟩
    have K4n : Aside (Blk (w8.setCell ⟨w.heap.size, 0, none⟩ (.int .i64 5)) (w.heap.size + 1) 27 [.int .i64 0, .string ⟨#[]⟩, .string ⟨#[]⟩, .int .i64 0, .int .i64 0, .string ⟨#[]⟩, .string ⟨#[]⟩, .int .i64 0]) := ⟨K4.out.far (show w.heap.size + 1 ≠ w.heap.size by omega) _⟩
    have BLn : Aside (Below w.heap.size w (w8.setCell ⟨w.heap.size, 0, none⟩ (.int .i64 5))) := ⟨BL.out.setCell (Nat.le_refl _) _⟩
    clear K2 K4 K6 BL
    generalize w8.setCell ⟨w.heap.size, 0, none⟩ (.int .i64 5) = w9 at K2n K4n BLn ⊢
    have K2 := K2n
    have K4 := K4n
    have BL := BLn
    clear K2n K4n BLn
    have HTW := Aside.mk (tab_below HT.out BL.out)
    obtain ⟨dr0, dr1⟩ := digV_range cookie v
    obtain ⟨dv, hdv⟩ : ∃ d, d = digV cookie v := ⟨_, rfl⟩
    rw [← hdv] at E dr0 dr1
    have HDV := Aside.mk hdv
    clear hdv
    have bz := bes_size 4 dv
    have ad1 : ∀ wx, (Op.stringOp .add ⟨#[97]⟩ (bes 4 dv)).run Tryd.prog wx = .ok (.string (⟨#[97]⟩ ++ bes 4 dv)) wx := fun wx => run_string_add_sum (w := wx) _ _ (by rw [bz]; decide)
    obtain ⟨tx, htx⟩ : ∃ t, t = (⟨#[97]⟩ : ByteArray) ++ bes 4 dv := ⟨_, rfl⟩
    rw [← htx] at E ad1
    clear htx bz
    have HTc : Aside (Go.Lib.TabIs Tryd.prog w9.drew "internal/strconv.uint64pow10" .u64 Go.Lib.pow10Tab) := ⟨tab_below HTW.out (Below.refl _ _).drew⟩
    have x0 := K2.out.cell 0
    have x1 := K2.out.cell 1
    have x2 := K2.out.cell 2
    have x3 := K2.out.cell 3
    have x4 := K2.out.cell 4
    have x5 := K2.out.cell 5
    have x6 := K2.out.cell 6
    have x7 := K2.out.cell 7
    simp only [List.getElem?_cons_zero, List.getElem?_cons_succ] at x0 x1 x2 x3 x4 x5 x6 x7
    have lx : w.heap.size < w9.heap.size := K2.out.lt
    have lr : w.heap.size + 1 < w9.heap.size := K4.out.lt
    have nx : ¬ w.heap.size = w.heap.size + 1 := by omega
    refine region_join (.yes 0 (.yes 1 (.yes 2 (.yes 3 (.eff 4 (.eff 5 (.yes 6 (.fork 7 8 (.eff 8 (.yes 9 .nil)) (.eff 7 (.yes 9 .nil)))))))))) (fun w' => But (fun k => k = w.heap.size + 1) w9 w') 195 rfl (by kernel_rfl) (by kernel_rfl) (but_drewn (But.refl _ _)) (fun us wz => ∃ gs : Nat, us = [(5, .slice (some ⟨gs, 0, none⟩) 1 1), (172, .slice (some ⟨gs, 0, none⟩) 1 1), (171, .string tx), (170, .string (bes 4 dv)), (169, .int .i64 dv), (168, .int .i64 v), (167, .string cookie), (166, .pointer (some ⟨w.heap.size, 2, none⟩)), (165, .agg #[.int .i64 5, .string name, .string cookie, .int .i64 flags, .int .i64 mine, .string calls, .string peer, .int .i64 both])] ∧ Aside (Blk wz (w.heap.size + 1) 27 [.int .i64 5, .string name, .string cookie, .int .i64 flags, .int .i64 mine, .string calls, .string peer, .int .i64 both]) ∧ Aside (Blk wz gs 9 [.string tx]) ∧ w.heap.size ≤ gs ∧ Aside (Below w.heap.size w wz)) (fun ops fr HFR HSZ hl => ?_) (fun us wz hR => ?_)
    · have hl_0 := ops_start hl
      clear hl
      obtain ⟨H0, hl_1⟩ := ops_next 0 1 rfl hl_0
      clear hl_0
      obtain ⟨H1, hl_2⟩ := ops_next 1 2 rfl hl_1
      clear hl_1
      obtain ⟨H2, hl_3⟩ := ops_next 2 3 rfl hl_2
      clear hl_2
      obtain ⟨H3, hl_4⟩ := ops_next 3 4 rfl hl_3
      clear hl_3
      obtain ⟨H4, hl_5⟩ := ops_next 4 5 rfl hl_4
      clear hl_4
      obtain ⟨H5, hl_6⟩ := ops_next 5 6 rfl hl_5
      clear hl_5
      obtain ⟨H6, hl_7⟩ := ops_next 6 7 rfl hl_6
      clear hl_6
      obtain ⟨H7, hl_8⟩ := ops_next 7 8 rfl hl_7
      clear hl_7
      obtain ⟨H8, hl_9⟩ := ops_next 8 9 rfl hl_8
      clear hl_8
      obtain ⟨H9, hl_10⟩ := ops_next 9 10 rfl hl_9
      clear hl_9
      clear hl_10
      have x_2 : ext fr 2 = _ := congrArg (fun a => Act.eval a (.tmp 2)) HFR.out
      conv at x_2 => rhs; simp only [Act.eval, Array.getD_eq_getD_getElem?, List.getElem?_toArray, List.getElem?_cons_succ, List.getElem?_cons_zero, Option.getD_some]
      have x_4 : ext fr 4 = _ := congrArg (fun a => Act.eval a (.tmp 4)) HFR.out
      conv at x_4 => rhs; simp only [Act.eval, Array.getD_eq_getD_getElem?, List.getElem?_toArray, List.getElem?_cons_succ, List.getElem?_cons_zero, Option.getD_some]
      have x_16 : ext fr 16 = _ := congrArg (fun a => Act.eval a (.tmp 16)) HFR.out
      conv at x_16 => rhs; simp only [Act.eval, Array.getD_eq_getD_getElem?, List.getElem?_toArray, List.getElem?_cons_succ, List.getElem?_cons_zero, Option.getD_some]
      have HS0 : Aside (But (fun k => k = w.heap.size + 1) w9 w9.drew) := ⟨but_drewn (But.refl _ _)⟩
      have K4w : Aside (Blk w9.drew (w.heap.size + 1) 27 [.int .i64 0, .string ⟨#[]⟩, .string ⟨#[]⟩, .int .i64 0, .int .i64 0, .string ⟨#[]⟩, .string ⟨#[]⟩, .int .i64 0]) := ⟨K4.out⟩
      have BLw := Aside.mk BL.out.drew
      refine tenv_yes HSZ H0.out ?_ (fun w' hS => ?_) ?_
      rotate_left
      (have h0 := (But.cell (o := 0) hS lx nx).trans x0
       have h1 := (But.cell (o := 1) hS lx nx).trans x1
       have h2 := (But.cell (o := 2) hS lx nx).trans x2
       have h3 := (But.cell (o := 3) hS lx nx).trans x3
       have h4 := (But.cell (o := 4) hS lx nx).trans x4
       have h5 := (But.cell (o := 5) hS lx nx).trans x5
       have h6 := (But.cell (o := 6) hS lx nx).trans x6
       have h7 := (But.cell (o := 7) hS lx nx).trans x7
       go_simp
       rfl)
      refine tenv_yes HSZ H1.out ?_ (fun w' hS => ?_) ?_
      rotate_left
      (go_simp
       rfl)
      refine tenv_yes HSZ H2.out ?_ (fun w' hS => ?_) ?_
      rotate_left
      (have h := (But.cell hS lx nx).trans x2
       go_simp
       rfl)
      refine tenv_yes HSZ H3.out ?_ (fun w' hS => ?_) ?_
      rotate_left
      (go_simp
       rfl)
      refine top_call HSZ H4.out ?_ ?_ ?_ ?_
      rotate_left 2
      (go_simp
       first | rfl | (constructor <;> rfl))
      refine (iDigest cookie v w9.drew (by omega) (by omega) (by omega) HTc.out).mono ?_
      rintro e z1 ⟨rfl, hb⟩
      rw [← HDV.out]
      have HS1 := Aside.mk (HS0.out.trans (But.below hb))
      have K4x := Aside.mk (K4w.out.below hb)
      have BLx := Aside.mk (below_later BLw.out hb)
      have HTx := Aside.mk (tab_below HTc.out hb)
      clear HS0 K4w BLw HTc hb
      have HS0 := HS1
      have K4w := K4x
      have BLw := BLx
      have HTc := HTx
      clear HS1 K4x BLx HTx
      refine ⟨_, rfl, HS0.out, ?_⟩
      refine top_call HSZ H5.out ?_ ?_ ?_ ?_
      rotate_left 2
      (go_simp
       first | rfl | (constructor <;> rfl))
      refine (bytesOf dv 4 z1 dr0 (by omega) (by omega)).mono ?_
      rintro e z2 ⟨rfl, hb⟩
      have HS1 := Aside.mk (HS0.out.trans (But.below hb))
      have K4x := Aside.mk (K4w.out.below hb)
      have BLx := Aside.mk (below_later BLw.out hb)
      have HTx := Aside.mk (tab_below HTc.out hb)
      clear HS0 K4w BLw HTc hb
      have HS0 := HS1
      have K4w := K4x
      have BLw := BLx
      have HTc := HTx
      clear HS1 K4x BLx HTx
      refine ⟨_, rfl, HS0.out, ?_⟩
      refine tenv_yes HSZ H6.out ?_ (fun w' hS => ?_) ?_
      rotate_left
      (have h := ad1
       go_simp
       rfl)
      have q0 := K4w.out.cell 0
      have q1 := K4w.out.cell 1
      have q2 := K4w.out.cell 2
      have q3 := K4w.out.cell 3
      have q4 := K4w.out.cell 4
      have q5 := K4w.out.cell 5
      have q6 := K4w.out.cell 6
      have q7 := K4w.out.cell 7
      simp only [List.getElem?_cons_zero, List.getElem?_cons_succ] at q0 q1 q2 q3 q4 q5 q6 q7
      have e0 := K4w.out.free 0
      have e1 := K4w.out.free 1
      have e2 := K4w.out.free 2
      have e3 := K4w.out.free 3
      have e4 := K4w.out.free 4
      have e5 := K4w.out.free 5
      have e6 := K4w.out.free 6
      have e7 := K4w.out.free 7
      have lz : w.heap.size + 1 < z2.heap.size := K4w.out.lt
      have gz : w.heap.size ≤ z2.heap.size := BLw.out.size
      obtain ⟨za, hza⟩ : ∃ x, x = z2.alloc (.cells #[.string tx] 9) := ⟨_, rfl⟩
      obtain ⟨zs, hzs⟩ : ∃ x, x = ((((((((z2.setCell ⟨w.heap.size + 1, 0, none⟩ (.int .i64 5)).setCell ⟨w.heap.size + 1, 1, none⟩ (.string name)).setCell ⟨w.heap.size + 1, 2, none⟩ (.string cookie)).setCell ⟨w.heap.size + 1, 3, none⟩ (.int .i64 flags)).setCell ⟨w.heap.size + 1, 4, none⟩ (.int .i64 mine)).setCell ⟨w.heap.size + 1, 5, none⟩ (.string calls)).setCell ⟨w.heap.size + 1, 6, none⟩ (.string peer)).setCell ⟨w.heap.size + 1, 7, none⟩ (.int .i64 both)) := ⟨_, rfl⟩
      obtain ⟨zz, hzz⟩ : ∃ x, x = zs.alloc (.cells #[.string tx] 9) := ⟨_, rfl⟩
      have SZ : zs.heap.size = z2.heap.size := by rw [hzs]; simp
      have Sa : But (fun k => k = w.heap.size + 1) w9 za := by rw [hza]; exact HS0.out.trans (But.below ((Below.refl _ _).alloc (Nat.le_refl _) _))
      have Ss : But (fun k => k = w.heap.size + 1) w9 zs := by rw [hzs]; exact ((((((((HS0.out.set (p := ⟨w.heap.size + 1, 0, none⟩) rfl _).set (p := ⟨w.heap.size + 1, 1, none⟩) rfl _).set (p := ⟨w.heap.size + 1, 2, none⟩) rfl _).set (p := ⟨w.heap.size + 1, 3, none⟩) rfl _).set (p := ⟨w.heap.size + 1, 4, none⟩) rfl _).set (p := ⟨w.heap.size + 1, 5, none⟩) rfl _).set (p := ⟨w.heap.size + 1, 6, none⟩) rfl _).set (p := ⟨w.heap.size + 1, 7, none⟩) rfl _)
      have Sz : But (fun k => k = w.heap.size + 1) w9 zz := by rw [hzz]; exact Ss.trans (But.below ((Below.refl _ _).alloc (Nat.le_refl _) _))
      have Ks : Blk zs (w.heap.size + 1) 27 [.int .i64 5, .string name, .string cookie, .int .i64 flags, .int .i64 mine, .string calls, .string peer, .int .i64 both] := by rw [hzs]; exact ((((((((K4w.out.set 0 (.int .i64 5)).set 1 (.string name)).set 2 (.string cookie)).set 3 (.int .i64 flags)).set 4 (.int .i64 mine)).set 5 (.string calls)).set 6 (.string peer)).set 7 (.int .i64 both))
      have Kz : Blk zz (w.heap.size + 1) 27 [.int .i64 5, .string name, .string cookie, .int .i64 flags, .int .i64 mine, .string calls, .string peer, .int .i64 both] := by rw [hzz]; exact Ks.alloc _
      have KS : Blk zz z2.heap.size 9 [.string tx] := by rw [hzz, ← SZ]; exact Blk.new zs _ _
      have BLz : Below w.heap.size w zz := by rw [hzz, hzs]; exact (((((((((BLw.out.setCell (Nat.le_succ _) _).setCell (Nat.le_succ _) _).setCell (Nat.le_succ _) _).setCell (Nat.le_succ _) _).setCell (Nat.le_succ _) _).setCell (Nat.le_succ _) _).setCell (Nat.le_succ _) _).setCell (Nat.le_succ _) _)).alloc (by rw [← hzs, SZ]; exact gz) _
      have HZ : Aside (Blk zz (w.heap.size + 1) 27 [.int .i64 5, .string name, .string cookie, .int .i64 flags, .int .i64 mine, .string calls, .string peer, .int .i64 both] ∧ Blk zz z2.heap.size 9 [.string tx] ∧ Below w.heap.size w zz) := ⟨Kz, KS, BLz⟩
      clear Kz KS BLz Ks
      refine And.intro ?_ ?_
      · skip
        refine top_run HSZ H7.out (.slice (some ⟨z2.heap.size, 0, none⟩) 1 1) za ?_ ?_ ?_
        (rw [hza]; go_simp; try rfl)
        exact Sa
        refine top_store HSZ H8.out zz ?_ ?_ ?_
        (rw [hzz, hzs, hza]; go_simp; try rfl)
        exact Sz
        refine tenv_yes HSZ H9.out ?_ (fun w' hS => ?_) ?_
        rotate_left
        (go_simp
         rfl)
        refine tree_end ⟨rfl, [(5, .slice (some ⟨z2.heap.size, 0, none⟩) 1 1), (172, .slice (some ⟨z2.heap.size, 0, none⟩) 1 1), (171, .string tx), (170, .string (bes 4 dv)), (169, .int .i64 dv), (168, .int .i64 v), (167, .string cookie), (166, .pointer (some ⟨w.heap.size, 2, none⟩)), (165, .agg #[.int .i64 5, .string name, .string cookie, .int .i64 flags, .int .i64 mine, .string calls, .string peer, .int .i64 both])], ?_, z2.heap.size, rfl, ⟨HZ.out.1⟩, ⟨HZ.out.2.1⟩, gz, ⟨HZ.out.2.2⟩⟩
        obtain rfl := HFR.out
        simp only [putAll, Act.put, List.setIfInBounds_toArray, List.set_cons_succ, List.set_cons_zero]
      · skip
        refine top_store HSZ H8.out zs ?_ ?_ ?_
        (rw [hzs]; go_simp; try rfl)
        exact Ss
        refine top_run HSZ H7.out (.slice (some ⟨z2.heap.size, 0, none⟩) 1 1) zz ?_ ?_ ?_
        (rw [hzz, ← SZ]; go_simp; try rfl)
        exact Sz
        refine tenv_yes HSZ H9.out ?_ (fun w' hS => ?_) ?_
        rotate_left
        (go_simp
         rfl)
        refine tree_end ⟨rfl, [(5, .slice (some ⟨z2.heap.size, 0, none⟩) 1 1), (172, .slice (some ⟨z2.heap.size, 0, none⟩) 1 1), (171, .string tx), (170, .string (bes 4 dv)), (169, .int .i64 dv), (168, .int .i64 v), (167, .string cookie), (166, .pointer (some ⟨w.heap.size, 2, none⟩)), (165, .agg #[.int .i64 5, .string name, .string cookie, .int .i64 flags, .int .i64 mine, .string calls, .string peer, .int .i64 both])], ?_, z2.heap.size, rfl, ⟨HZ.out.1⟩, ⟨HZ.out.2.1⟩, gz, ⟨HZ.out.2.2⟩⟩
        obtain rfl := HFR.out
        simp only [putAll, Act.put, List.setIfInBounds_toArray, List.set_cons_succ, List.set_cons_zero]
    obtain ⟨gs, rfl, KR, KS, hgs, BLR⟩ := hR
    have ZR := KS.out.lt
    clear x0 x1 x2 x3 x4 x5 x6 x7 lx lr nx
    simp only [putAll, Act.put, List.setIfInBounds_toArray, List.set_cons_succ, List.set_cons_zero]
    go_wp2_with fail
    refine bodyPost_ret (res_ct rfl _ _ (w.heap.size + 1) 27 [.int .i64 5, .string name, .string cookie, .int .i64 flags, .int .i64 mine, .string calls, .string peer, .int .i64 both] _ rfl KR.out Tryd.underlying27 rfl (by kernel_rfl)) rfl ⟨_, by rw [E.out], by rw [E.out]; exact strs_row [tx] KS.out ⟨hgs, ZR⟩, BLR.out⟩
  have heb : (u == dg) = false := by simpa using he
  have E : Aside (r = ((6, name, cookie, flags, mine, calls, peer, both), [])) := ⟨by rw [E0.out, decide_eq_false he, Bool.and_false]; rfl⟩
  clear E0
  have v0 := K6.out.cell 0
  have v1 := K6.out.cell 1
  have v2 := K6.out.cell 2
  have v3 := K6.out.cell 3
  have v4 := K6.out.cell 4
  have v5 := K6.out.cell 5
  have v6 := K6.out.cell 6
  have v7 := K6.out.cell 7
  simp only [List.getElem?_cons_zero, List.getElem?_cons_succ] at v0 v1 v2 v3 v4 v5 v6 v7
  go_wp2_with (refine wpList_store_blk rfl 27 _ _ rfl (w.heap.size + 1) [.int .i64 6, .string name, .string cookie, .int .i64 flags, .int .i64 mine, .string calls, .string peer, .int .i64 both] rfl rfl 27 [.int .i64 0, .string ⟨#[]⟩, .string ⟨#[]⟩, .int .i64 0, .int .i64 0, .string ⟨#[]⟩, .string ⟨#[]⟩, .int .i64 0] K4.out (by kernel_rfl) rfl rfl ?_; intro w9 k9 hg9; have K9 := Aside.mk k9; have B9 := Aside.mk (below_grown BL.out hg9 (by omega)); clear k9 hg9)
  refine bodyPost_ret (res_ct rfl _ _ (w.heap.size + 1) 27 [.int .i64 6, .string name, .string cookie, .int .i64 flags, .int .i64 mine, .string calls, .string peer, .int .i64 both] _ rfl K9.out Tryd.underlying27 rfl (by kernel_rfl)) rfl ⟨_, by rw [E.out], by rw [E.out]; exact strs_none _ _, B9.out⟩
end Go.Proofs.YtlopbheahedofaaDoor.Fn

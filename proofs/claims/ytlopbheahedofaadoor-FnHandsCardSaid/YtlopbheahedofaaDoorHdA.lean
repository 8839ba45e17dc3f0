/- The draws of FnHands: a name, a cookie, flags and a number. Queues of texts: a row that is taken from at its front and added to at its end. Two hands that hear one another, as plain data. Conditions: those of each theorem. -/
import Derived.Test.YtlopbheahedofaaDoorCur0
import Derived.Test.YtlopbheahedofaaDoorPlanV
import Derived.Test.YtlopbheahedofaaDoorBytes
import Derived.Laws.MakeOwn
import Derived.Laws.BytesArg
import Derived.Test.YtlopbheahedofaaDoorOwnA
import Derived.Laws.CopyRow
import Derived.Test.YtlopbheahedofaaDoorHs18
section
set_option linter.unusedVariables false
namespace Go.Proofs.YtlopbheahedofaaDoor.Fn
open Go Go.RowKit Go.Proofs.YtlopbheahedofaaDoor.Lib Go.Proofs.YtlopbheahedofaaDoor.Plan
attribute [local go_sem] look_tmp look_const look_func look_global lookT_nil lookT_hit lookT_miss evOf_const evOf_func evOf_global

def names5 : List Value := [.string ⟨#[114, 101, 100]⟩, .string ⟨#[98, 108, 117, 101]⟩, .string ⟨#[103, 114, 101, 101, 110]⟩, .string ⟨#[97]⟩, .string ⟨#[122, 122]⟩]
theorem names5_at (k : Nat) (hk : k < names5.length) : ∃ s : ByteArray, names5[k] = .string s ∧ s.size ≤ 33 := by
  have hk2 : k < 5 := hk
  match k, hk2 with
  | 0, _ | 1, _ | 2, _ | 3, _ | 4, _ => exact ⟨_, rfl, by decide⟩
def names4 : List Value := [.string ⟨#[]⟩, .string ⟨#[65]⟩, .string ⟨#[97, 32, 98]⟩, .string ⟨#[97, 98, 99, 100, 101, 102, 103, 104, 105, 106, 107, 108, 109, 110, 111, 112, 113, 114, 115, 116, 117, 118, 119, 120, 121, 122, 97, 98, 99, 100, 101, 102, 103]⟩]
theorem names4_at (k : Nat) (hk : k < names4.length) : ∃ s : ByteArray, names4[k] = .string s ∧ s.size ≤ 33 := by
  have hk2 : k < 4 := hk
  match k, hk2 with
  | 0, _ | 1, _ | 2, _ | 3, _ => exact ⟨_, rfl, by decide⟩
def flagsL : List Value := [.int .i64 0, .int .i64 5, .int .i64 65535, .int .i64 65536, .int .i64 (-1)]
theorem flagsL_at (k : Nat) (hk : k < 5) : ∃ z : Int, flagsL[k]? = some (.int .i64 z) ∧ -1 ≤ z ∧ z ≤ 65536 := by
  match k, hk with
  | 0, _ | 1, _ | 2, _ | 3, _ | 4, _ => exact ⟨_, rfl, by decide, by decide⟩
def minesL : List Value := [.int .i64 0, .int .i64 77, .int .i64 4294967295, .int .i64 4294967296, .int .i64 (-1)]
theorem minesL_at (k : Nat) (hk : k < 5) : ∃ z : Int, minesL[k]? = some (.int .i64 z) ∧ -1 ≤ z ∧ z ≤ 4294967296 := by
  match k, hk with
  | 0, _ | 1, _ | 2, _ | 3, _ | 4, _ => exact ⟨_, rfl, by decide, by decide⟩
def keysL (x : ByteArray) : List Value := [.string ⟨#[107, 101, 121]⟩, .string ⟨#[]⟩, .string x]
theorem keysL_at (x : ByteArray) (hx : x.size ≤ 101) (k : Nat) (hk : k < 3) : ∃ y : ByteArray, (keysL x)[k]? = some (.string y) ∧ y.size ≤ 101 := by
  match k, hk with
  | 0, _ => exact ⟨_, rfl, by decide⟩
  | 1, _ => exact ⟨_, rfl, by decide⟩
  | 2, _ => exact ⟨_, rfl, hx⟩
theorem zeros_made (w : World) (r : Int) (h0 : 0 ≤ r) (h1 : r ≤ 101) :
    (Instr.makeSlice 22 (.int .i64 r) (.int .i64 r)).run Tryd.prog w = .ok (.slice (some ⟨w.heap.size, 0, none⟩) r.toNat r.toNat) (w.alloc (.cells (List.replicate r.toNat (Value.int .u8 0)).toArray 5)) := by
  obtain ⟨i0, hi0, iz0, iz1, iz2⟩ := info_parts infoU8
  rw [run_make w 22 5 i0 (.int .u8 0) Tryd.underlying22 hi0 iz0 .i64 .i64 r r h0 (Int.le_refl _) (by rw [iz2]; omega) (by omega), iz1]
  congr 3
  apply Array.ext
  · simp [madeCells]
  · intro j h1 h2
    simp [madeCells, Value.cells, Nat.mod_one]
theorem zeros_text (w : World) (b m : Nat) (h : Blk w b 5 (List.replicate m (Value.int .u8 0))) :
    (convert 22 9 (.slice (some ⟨b, 0, none⟩) m m)).run Tryd.prog w = .ok (.string (strOfNums (List.replicate m 0))) w := by
  refine run_convert_bytes_arg w 22 5 Tryd.underlying22 Tryd.underlying5 b 0 m m (List.replicate m 0) (by simp) (fun i hi => ?_) 9 Tryd.underlying9
  rw [Nat.zero_add, h.cell i]
  simp [hi]
theorem res_four {fn : Func} {t0 t1 t2 t3 : Tmp} (h : fn.results = #[.tmp t0, .tmp t1, .tmp t2, .tmp t3]) (tmps : Array Value) (P : Program) (w : World) :
    (results fn tmps).run P w = .ok (.tuple #[tmps.getD t0 undef, tmps.getD t1 undef, tmps.getD t2 undef, tmps.getD t3 undef]) w := by
  simp [results, h]
set_option maxRecDepth 100000 in
set_option maxHeartbeats 2000000 in
theorem drawName (g : Nat) (A : Option Addr) (n c : Nat) (top : Int) (w : World) (h : CurOK w g A n c top) (hn : n ≤ 1048576) (ht : top ≤ 1000000000000) :
    Calls Tryd.prog 20 #[.pointer (some ⟨g, 0, none⟩)] w fun e w2 => ∃ s : ByteArray, e = .returned (.string s) ∧ s.size ≤ 33 ∧ But (AtG g) w w2 ∧ CurOK w2 g A n c (top + 2) := by
  have HC := Aside.mk h
  have hg : w.heap.size ≠ g := by obtain ⟨k, s, h1, -⟩ := h; have := h1.lt; omega
  clear h
  go_enter Tryd.func20, Tryd.ntmps20
  go_wp2_with fail
  refine (curPick g A n c top 5 4 _ (HC.out.below (by go_grown)) hn ht (by omega) (by omega) (by omega)).mono ?_
  rintro e w1 ⟨r, rfl, h0, h1, hb, hc⟩
  obtain ⟨k, rfl⟩ := Int.eq_ofNat_of_zero_le h0
  have hk : k < names5.length := by change k < 5; omega
  have hk2 : k < 5 := hk
  have hk3 : (k : Int) < 5 := by omega
  have hcell := lit_cell (h := w.heap.size) (k := k) (T := 9) (l := names5) hb (by simp) hg (Blk.new w 9 names5) hk
  obtain ⟨s, hs, hm⟩ := names5_at k hk
  rw [hs] at hcell
  have HB := Aside.mk hb
  have HCC := Aside.mk hc
  have HM := Aside.mk hm
  clear hb hc hs hm hk h0 h1
  go_wp2_with fail
  go_ret
  exact ⟨s, rfl, HM.out, But.trans (But.below (by go_grown)) HB.out, HCC.out⟩
/-- What is drawn. -/
def DrewOpen (w : World) (e : Ending) (w' : World) : Prop :=
  ∃ (name key : ByteArray) (flags mine : Int), e = .returned (.tuple #[.string name, .string key, .int .i64 flags, .int .i64 mine]) ∧ name.size ≤ 33 ∧ key.size ≤ 101 ∧
    (-1 ≤ flags ∧ flags ≤ 65536) ∧ (-1 ≤ mine ∧ mine ≤ 4294967296) ∧ Below w.heap.size w w'
set_option maxRecDepth 100000 in
set_option maxHeartbeats 4000000 in
theorem drawOpen (A : Option Addr) (n c : Nat) (w : World) (h : CodeIn w A n) (hn : n ≤ 1048576) :
    Calls Tryd.prog 6 #[.slice A n c] w (DrewOpen w) := by
  have HC := Aside.mk h
  clear h
  go_enter Tryd.func6, Tryd.ntmps6
  go_wp2_with fail
  refine (drawCur A n c w HC.out hn).mono ?_
  rintro e w1 ⟨rfl, hb, hc⟩
  have HB1 := Aside.mk hb
  have HC1 := Aside.mk hc
  have hg1 : w.heap.size < w1.heap.size := by obtain ⟨k, s, h1, -⟩ := hc; exact h1.lt
  clear hb hc
  go_wp2_with fail
  refine (drawName w.heap.size A n c 0 w1 HC1.out hn (by omega)).mono ?_
  rintro e w2 ⟨nm, rfl, hnm, hb, hc⟩
  have HB2 : Aside (Below w.heap.size w w2) := ⟨curBelow HB1.out hb⟩
  have HC2 := Aside.mk hc
  have hg2 : w.heap.size < w2.heap.size := Nat.lt_of_lt_of_le hg1 hb.size
  clear hb hc HB1 HC1 hg1
  go_wp2_with fail
  refine (curPick w.heap.size A n c (0 + 2) 8 7 w2 HC2.out hn (by omega) (by omega) (by omega) (by omega)).mono ?_
  rintro e w3 ⟨x, rfl, x0, x1, hb, hc⟩
  have HB3 : Aside (Below w.heap.size w w3) := ⟨curBelow HB2.out hb⟩
  have HC3 := Aside.mk hc
  have hg3 : w.heap.size < w3.heap.size := Nat.lt_of_lt_of_le hg2 hb.size
  clear hb hc HB2 HC2 hg2
  by_cases cx : x = 0
  · go_wp2_with fail
    refine (curPick w.heap.size A n c (0 + 2 + 2) 4 3 _ (HC3.out.below (by go_grown)) hn (by omega) (by omega) (by omega) (by omega)).mono ?_
    rintro e w4 ⟨r, rfl, h0, h1, hb, hc⟩
    obtain ⟨k, rfl⟩ := Int.eq_ofNat_of_zero_le h0
    have hk : k < names4.length := by change k < 4; omega
    have hk2 : k < 4 := hk
    have hk3 : (k : Int) < 4 := by omega
    have hcell := lit_cell (h := w3.heap.size) (k := k) (T := 9) (l := names4) hb (by simp) (show w3.heap.size ≠ w.heap.size by omega) (Blk.new w3 9 names4) hk
    obtain ⟨s, hs, hm⟩ := names4_at k hk
    rw [hs] at hcell
    have HM4 := Aside.mk hm
    have HB4 : Aside (Below w.heap.size w w4) := ⟨curBelow (HB3.out.alloc (by omega) _) hb⟩
    have HC4 := Aside.mk hc
    have hg4 : w.heap.size < w4.heap.size := Nat.lt_of_lt_of_le hg3 (Nat.le_trans (by simp) hb.size)
    clear hb hc hs hk h0 h1 HB3 HC3 hg3
    go_wp2_with fail
    clear hcell hk2 hk3
    refine region_free 41 25 [(0, 20), (1, 21), (2, 22), (3, 23), (4, 24), (5, 25), (6, 26), (7, 27), (8, 28), (9, 29), (10, 30), (11, 31), (12, 32), (13, 33), (14, 34), (15, 35), (16, 36), (17, 37), (18, 38), (19, 39), (20, 40), (21, 2), (22, 3), (23, 4), (24, 5)] [(2, 1, 21), (3, 2, 22), (4, 3, 23), (5, 4, 24), (6, 5, 25), (8, 7, 27), (9, 6, 26), (9, 8, 28), (10, 9, 29), (13, 12, 32), (14, 11, 31), (14, 13, 33), (15, 14, 34), (18, 17, 37), (19, 16, 36), (19, 18, 38), (20, 19, 39), (21, 0, 20), (22, 10, 30), (23, 15, 35), (24, 20, 40)] (fun c' w' => But (AtG w.heap.size) w4 w' ∧ CurOK w' w.heap.size A n c (10 + 2 * (c' : Int))) (fun w1 w2 => But (AtG w.heap.size) w1 w2) [(0, fun v _ => v = .string s), (1, fun v _ => v = .pointer (some ⟨w.heap.size, 0, none⟩)), (2, fun v _ => ∃ r : Int, v = .int .i64 r ∧ 0 ≤ r ∧ r ≤ 1), (3, fun v _ => ∃ r : Int, v = .int .i64 r ∧ 0 ≤ r ∧ r ≤ 101), (4, fun v w' => ∃ m b : Nat, v = .slice (some ⟨b, 0, none⟩) m m ∧ m ≤ 101 ∧ b ≠ w.heap.size ∧ Blk w' b 5 (List.replicate m (Value.int .u8 0))), (5, fun v _ => ∃ x : ByteArray, v = .string x ∧ x.size ≤ 101), (6, fun v w' => ∃ (b : Nat) (x : ByteArray), v = .slice (some ⟨b, 0, none⟩) 3 3 ∧ x.size ≤ 101 ∧ b ≠ w.heap.size ∧ Blk w' b 9 (keysL x)), (7, fun v _ => v = .pointer (some ⟨w.heap.size, 0, none⟩)), (8, fun v _ => ∃ r : Int, v = .int .i64 r ∧ 0 ≤ r ∧ r ≤ 2), (9, fun v w' => ∃ (b k : Nat) (x : ByteArray), v = .pointer (some ⟨b, k, none⟩) ∧ k < 3 ∧ x.size ≤ 101 ∧ b ≠ w.heap.size ∧ Blk w' b 9 (keysL x)), (10, fun v _ => ∃ x : ByteArray, v = .string x ∧ x.size ≤ 101), (11, fun v w' => ∃ b : Nat, v = .slice (some ⟨b, 0, none⟩) 5 5 ∧ b ≠ w.heap.size ∧ Blk w' b 3 flagsL), (12, fun v _ => v = .pointer (some ⟨w.heap.size, 0, none⟩)), (13, fun v _ => ∃ r : Int, v = .int .i64 r ∧ 0 ≤ r ∧ r ≤ 4), (14, fun v w' => ∃ b k : Nat, v = .pointer (some ⟨b, k, none⟩) ∧ k < 5 ∧ b ≠ w.heap.size ∧ Blk w' b 3 flagsL), (15, fun v _ => ∃ z : Int, v = .int .i64 z ∧ -1 ≤ z ∧ z ≤ 65536), (16, fun v w' => ∃ b : Nat, v = .slice (some ⟨b, 0, none⟩) 5 5 ∧ b ≠ w.heap.size ∧ Blk w' b 3 minesL), (17, fun v _ => v = .pointer (some ⟨w.heap.size, 0, none⟩)), (18, fun v _ => ∃ r : Int, v = .int .i64 r ∧ 0 ≤ r ∧ r ≤ 4), (19, fun v w' => ∃ b k : Nat, v = .pointer (some ⟨b, k, none⟩) ∧ k < 5 ∧ b ≠ w.heap.size ∧ Blk w' b 3 minesL), (20, fun v _ => ∃ z : Int, v = .int .i64 z ∧ -1 ≤ z ∧ z ≤ 4294967296), (21, fun v _ => v = .string s), (22, fun v _ => ∃ x : ByteArray, v = .string x ∧ x.size ≤ 101), (23, fun v _ => ∃ z : Int, v = .int .i64 z ∧ -1 ≤ z ∧ z ≤ 65536), (24, fun v _ => ∃ z : Int, v = .int .i64 z ∧ -1 ≤ z ∧ z ≤ 4294967296)] rfl (by kernel_rfl) rfl (by kernel_rfl) (by kernel_rfl) (allstab_cons (fun _ _ _ _ h => h) (allstab_cons (fun _ _ _ _ h => h) (allstab_cons (fun _ _ _ _ h => h) (allstab_cons (fun _ _ _ _ h => h) (allstab_cons (fun u w1 w2 hS ⟨m, b, e, hm, hb, hk⟩ => ⟨m, b, e, hm, hb, Blk.but hk hS hb⟩) (allstab_cons (fun _ _ _ _ h => h) (allstab_cons (fun u w1 w2 hS ⟨b, x, e, hm, hb, hk⟩ => ⟨b, x, e, hm, hb, Blk.but hk hS hb⟩) (allstab_cons (fun _ _ _ _ h => h) (allstab_cons (fun _ _ _ _ h => h) (allstab_cons (fun u w1 w2 hS ⟨b, k, x, e, h3, hm, hb, hk⟩ => ⟨b, k, x, e, h3, hm, hb, Blk.but hk hS hb⟩) (allstab_cons (fun _ _ _ _ h => h) (allstab_cons (fun u w1 w2 hS ⟨b, e, hb, hk⟩ => ⟨b, e, hb, Blk.but hk hS hb⟩) (allstab_cons (fun _ _ _ _ h => h) (allstab_cons (fun _ _ _ _ h => h) (allstab_cons (fun u w1 w2 hS ⟨b, k, e, h3, hb, hk⟩ => ⟨b, k, e, h3, hb, Blk.but hk hS hb⟩) (allstab_cons (fun _ _ _ _ h => h) (allstab_cons (fun u w1 w2 hS ⟨b, e, hb, hk⟩ => ⟨b, e, hb, Blk.but hk hS hb⟩) (allstab_cons (fun _ _ _ _ h => h) (allstab_cons (fun _ _ _ _ h => h) (allstab_cons (fun u w1 w2 hS ⟨b, k, e, h3, hb, hk⟩ => ⟨b, k, e, h3, hb, Blk.but hk hS hb⟩) (allstab_cons (fun _ _ _ _ h => h) (allstab_cons (fun _ _ _ _ h => h) (allstab_cons (fun _ _ _ _ h => h) (allstab_cons (fun _ _ _ _ h => h) (allstab_cons (fun _ _ _ _ h => h) (allstab_nil)))))))))))))))))))))))))) (⟨but_drew (But.refl _ _), (HC4.out.below (Below.refl _ _).drew).mono (by omega)⟩) (fun fr HFR => ?_) (fun fv wz HJ HF => ?_)
    · 
      have x_7 : ext fr 7 = _ := congrArg (fun a => Act.eval a (.tmp 7)) HFR.out
      conv at x_7 => rhs; simp only [Act.eval, Array.getD_eq_getD_getElem?, List.getElem?_toArray, List.getElem?_cons_succ, List.getElem?_cons_zero, Option.getD_some]
      have x_6 : ext fr 6 = _ := congrArg (fun a => Act.eval a (.tmp 6)) HFR.out
      conv at x_6 => rhs; simp only [Act.eval, Array.getD_eq_getD_getElem?, List.getElem?_toArray, List.getElem?_cons_succ, List.getElem?_cons_zero, Option.getD_some]
      refine allsteps_cons 0 1 rfl (fun av wv cv HJ hcv HX HD => ?_) ?_
      · skip
        have e_7 := (HX.out 7 rfl).trans x_7
        clear HX HD x_7 x_6
        refine did_value ?_ wv ?_ ⟨(fun h => ⟨h.1, h.2.mono (by omega)⟩) HJ.out, But.refl _ wv, ?_⟩
        rotate_left
        · go_simp
          rfl
        · exact rfl
      refine allsteps_cons 1 2 rfl (fun av wv cv HJ hcv HX HD => ?_) ?_
      · skip
        have e_6 := (HX.out 6 rfl).trans x_6
        clear HX HD x_7 x_6
        refine did_value ?_ wv ?_ ⟨(fun h => ⟨h.1, h.2.mono (by omega)⟩) HJ.out, But.refl _ wv, ?_⟩
        rotate_left
        · go_simp
          rfl
        · exact rfl
      refine allsteps_cons 2 3 rfl (fun av wv cv HJ hcv HX HD => ?_) ?_
      · skip
        obtain ⟨v_21, e_21⟩ : ∃ v, evOf av (.tmp 21) = v := ⟨_, rfl⟩
        have g_21 : ((fun v _ => v = .pointer (some ⟨w.heap.size, 0, none⟩)) : Value → World → Prop) v_21 wv := by have h := HD.out 1 21 rfl; rw [e_21] at h; exact h
        have g_21 : v_21 = .pointer (some ⟨w.heap.size, 0, none⟩) := g_21
        subst g_21
        clear HX HD x_7 x_6
        refine did_call _ _ (by go_simp; first | rfl | (constructor <;> rfl)) ?_
        refine (curPick w.heap.size A n c (10 + 2 * (cv : Int)) 2 1 wv HJ.out.2 hn (by omega) (by omega) (by omega) (by omega)).mono ?_
        rintro e w5 ⟨r, rfl, r0, r1, hb, hc⟩
        exact ⟨_, rfl, ⟨HJ.out.1.trans hb, hc.mono (by omega)⟩, hb, gof_mk (fun v _ => ∃ r : Int, v = .int .i64 r ∧ 0 ≤ r ∧ r ≤ 1) rfl <|  ⟨r, rfl, r0, r1⟩⟩
      refine allsteps_cons 3 4 rfl (fun av wv cv HJ hcv HX HD => ?_) ?_
      · skip
        obtain ⟨v_22, e_22⟩ : ∃ v, evOf av (.tmp 22) = v := ⟨_, rfl⟩
        have g_22 : ((fun v _ => ∃ r : Int, v = .int .i64 r ∧ 0 ≤ r ∧ r ≤ 1) : Value → World → Prop) v_22 wv := by have h := HD.out 2 22 rfl; rw [e_22] at h; exact h
        obtain ⟨r, rfl, r0, r1⟩ := g_22
        clear HX HD x_7 x_6
        refine did_value ?_ wv ?_ ⟨(fun h => ⟨h.1, h.2.mono (by omega)⟩) HJ.out, But.refl _ wv, ?_⟩
        rotate_left
        · go_simp
          rfl
        · exact (gof_mk (fun v _ => ∃ r : Int, v = .int .i64 r ∧ 0 ≤ r ∧ r ≤ 101) rfl <|  ⟨_, rfl, by rw [IntKind.wrap_i64]; omega, by rw [IntKind.wrap_i64]; omega⟩)
      refine allsteps_cons 4 5 rfl (fun av wv cv HJ hcv HX HD => ?_) ?_
      · skip
        obtain ⟨v_23, e_23⟩ : ∃ v, evOf av (.tmp 23) = v := ⟨_, rfl⟩
        have g_23 : ((fun v _ => ∃ r : Int, v = .int .i64 r ∧ 0 ≤ r ∧ r ≤ 101) : Value → World → Prop) v_23 wv := by have h := HD.out 3 23 rfl; rw [e_23] at h; exact h
        obtain ⟨r, rfl, r0, r1⟩ := g_23
        clear HX HD x_7 x_6
        have hgv : wv.heap.size ≠ w.heap.size := by have h1 := HJ.out.1.size; have h2 := hg4; omega
        refine did_value _ _ (by go_simp; rw [zeros_made wv r r0 r1]; rfl) ⟨⟨HJ.out.1.trans (But.below ((Below.refl _ _).alloc (Nat.le_refl _) _)), (HJ.out.2.below ((Below.refl _ _).alloc (Nat.le_refl _) _)).mono (by omega)⟩, But.below ((Below.refl _ _).alloc (Nat.le_refl _) _), gof_mk (fun v w' => ∃ m b : Nat, v = .slice (some ⟨b, 0, none⟩) m m ∧ m ≤ 101 ∧ b ≠ w.heap.size ∧ Blk w' b 5 (List.replicate m (Value.int .u8 0))) rfl <|  ⟨r.toNat, wv.heap.size, rfl, by omega, hgv, Blk.new wv 5 _⟩⟩
      refine allsteps_cons 5 6 rfl (fun av wv cv HJ hcv HX HD => ?_) ?_
      · skip
        obtain ⟨v_24, e_24⟩ : ∃ v, evOf av (.tmp 24) = v := ⟨_, rfl⟩
        have g_24 : ((fun v w' => ∃ m b : Nat, v = .slice (some ⟨b, 0, none⟩) m m ∧ m ≤ 101 ∧ b ≠ w.heap.size ∧ Blk w' b 5 (List.replicate m (Value.int .u8 0))) : Value → World → Prop) v_24 wv := by have h := HD.out 4 24 rfl; rw [e_24] at h; exact h
        obtain ⟨m, b, rfl, hm, hb, hk⟩ := g_24
        clear HX HD x_7 x_6
        refine did_value _ wv (by go_simp; rw [zeros_text wv b m hk]; rfl) ⟨⟨HJ.out.1, HJ.out.2.mono (by omega)⟩, But.refl _ _, gof_mk (fun v _ => ∃ x : ByteArray, v = .string x ∧ x.size ≤ 101) rfl <|  ⟨_, rfl, by rw [strOfNums_size]; simpa using hm⟩⟩
      refine allsteps_cons 6 7 rfl (fun av wv cv HJ hcv HX HD => ?_) ?_
      · skip
        obtain ⟨v_25, e_25⟩ : ∃ v, evOf av (.tmp 25) = v := ⟨_, rfl⟩
        have g_25 : ((fun v _ => ∃ x : ByteArray, v = .string x ∧ x.size ≤ 101) : Value → World → Prop) v_25 wv := by have h := HD.out 5 25 rfl; rw [e_25] at h; exact h
        obtain ⟨x5, rfl, hx5⟩ := g_25
        clear HX HD x_7 x_6
        have hgv : wv.heap.size ≠ w.heap.size := by have h1 := HJ.out.1.size; have h2 := hg4; omega
        refine did_value (.slice (some ⟨wv.heap.size, 0, none⟩) 3 3) (wv.alloc (.cells (keysL x5).toArray 9)) (by go_simp <;> rfl) ⟨⟨HJ.out.1.trans (But.below ((Below.refl _ _).alloc (Nat.le_refl _) _)), (HJ.out.2.below ((Below.refl _ _).alloc (Nat.le_refl _) _)).mono (by omega)⟩, But.below ((Below.refl _ _).alloc (Nat.le_refl _) _), gof_mk (fun v w' => ∃ (b : Nat) (x : ByteArray), v = .slice (some ⟨b, 0, none⟩) 3 3 ∧ x.size ≤ 101 ∧ b ≠ w.heap.size ∧ Blk w' b 9 (keysL x)) rfl <|  ⟨wv.heap.size, x5, rfl, hx5, hgv, Blk.new wv 9 (keysL x5)⟩⟩
      refine allsteps_cons 7 8 rfl (fun av wv cv HJ hcv HX HD => ?_) ?_
      · skip
        have e_6 := (HX.out 6 rfl).trans x_6
        clear HX HD x_7 x_6
        refine did_value ?_ wv ?_ ⟨(fun h => ⟨h.1, h.2.mono (by omega)⟩) HJ.out, But.refl _ wv, ?_⟩
        rotate_left
        · go_simp
          rfl
        · exact rfl
      refine allsteps_cons 8 9 rfl (fun av wv cv HJ hcv HX HD => ?_) ?_
      · skip
        obtain ⟨v_27, e_27⟩ : ∃ v, evOf av (.tmp 27) = v := ⟨_, rfl⟩
        have g_27 : ((fun v _ => v = .pointer (some ⟨w.heap.size, 0, none⟩)) : Value → World → Prop) v_27 wv := by have h := HD.out 7 27 rfl; rw [e_27] at h; exact h
        have g_27 : v_27 = .pointer (some ⟨w.heap.size, 0, none⟩) := g_27
        subst g_27
        clear HX HD x_7 x_6
        refine did_call _ _ (by go_simp; first | rfl | (constructor <;> rfl)) ?_
        refine (curPick w.heap.size A n c (10 + 2 * (cv : Int)) 3 2 wv HJ.out.2 hn (by omega) (by omega) (by omega) (by omega)).mono ?_
        rintro e w5 ⟨r, rfl, r0, r1, hb, hc⟩
        exact ⟨_, rfl, ⟨HJ.out.1.trans hb, hc.mono (by omega)⟩, hb, gof_mk (fun v _ => ∃ r : Int, v = .int .i64 r ∧ 0 ≤ r ∧ r ≤ 2) rfl <|  ⟨r, rfl, r0, r1⟩⟩
      refine allsteps_cons 9 10 rfl (fun av wv cv HJ hcv HX HD => ?_) ?_
      · skip
        obtain ⟨v_26, e_26⟩ : ∃ v, evOf av (.tmp 26) = v := ⟨_, rfl⟩
        have g_26 : ((fun v w' => ∃ (b : Nat) (x : ByteArray), v = .slice (some ⟨b, 0, none⟩) 3 3 ∧ x.size ≤ 101 ∧ b ≠ w.heap.size ∧ Blk w' b 9 (keysL x)) : Value → World → Prop) v_26 wv := by have h := HD.out 6 26 rfl; rw [e_26] at h; exact h
        obtain ⟨b, x6, rfl, hx6, hb, hk⟩ := g_26
        obtain ⟨v_28, e_28⟩ : ∃ v, evOf av (.tmp 28) = v := ⟨_, rfl⟩
        have g_28 : ((fun v _ => ∃ r : Int, v = .int .i64 r ∧ 0 ≤ r ∧ r ≤ 2) : Value → World → Prop) v_28 wv := by have h := HD.out 8 28 rfl; rw [e_28] at h; exact h
        obtain ⟨r, rfl, r0, r1⟩ := g_28
        clear HX HD x_7 x_6
        obtain ⟨k, rfl⟩ := Int.eq_ofNat_of_zero_le r0
        have hk3 : k < 3 := by omega
        have hk3i : (k : Int) < 3 := by omega
        refine did_value (.pointer (some ⟨b, k, none⟩)) wv (by go_simp <;> rfl) ⟨⟨HJ.out.1, HJ.out.2.mono (by omega)⟩, But.refl _ _, gof_mk (fun v w' => ∃ (b k : Nat) (x : ByteArray), v = .pointer (some ⟨b, k, none⟩) ∧ k < 3 ∧ x.size ≤ 101 ∧ b ≠ w.heap.size ∧ Blk w' b 9 (keysL x)) rfl <|  ⟨b, k, x6, rfl, hk3, hx6, hb, hk⟩⟩
      refine allsteps_cons 10 11 rfl (fun av wv cv HJ hcv HX HD => ?_) ?_
      · skip
        obtain ⟨v_29, e_29⟩ : ∃ v, evOf av (.tmp 29) = v := ⟨_, rfl⟩
        have g_29 : ((fun v w' => ∃ (b k : Nat) (x : ByteArray), v = .pointer (some ⟨b, k, none⟩) ∧ k < 3 ∧ x.size ≤ 101 ∧ b ≠ w.heap.size ∧ Blk w' b 9 (keysL x)) : Value → World → Prop) v_29 wv := by have h := HD.out 9 29 rfl; rw [e_29] at h; exact h
        obtain ⟨b, k, x6, rfl, hk3, hx6, hb, hk⟩ := g_29
        clear HX HD x_7 x_6
        obtain ⟨y, hy, hy2⟩ := keysL_at x6 hx6 k hk3
        have hc := (hk.cell k).trans hy
        refine did_value (.string y) wv (by go_simp <;> rfl) ⟨⟨HJ.out.1, HJ.out.2.mono (by omega)⟩, But.refl _ _, gof_mk (fun v _ => ∃ x : ByteArray, v = .string x ∧ x.size ≤ 101) rfl <|  ⟨y, rfl, hy2⟩⟩
      refine allsteps_cons 11 12 rfl (fun av wv cv HJ hcv HX HD => ?_) ?_
      · skip
        clear HX HD x_7 x_6
        have hgv : wv.heap.size ≠ w.heap.size := by have h1 := HJ.out.1.size; have h2 := hg4; omega
        refine did_value (.slice (some ⟨wv.heap.size, 0, none⟩) 5 5) (wv.alloc (.cells flagsL.toArray 3)) (by go_simp <;> rfl) ⟨⟨HJ.out.1.trans (But.below ((Below.refl _ _).alloc (Nat.le_refl _) _)), (HJ.out.2.below ((Below.refl _ _).alloc (Nat.le_refl _) _)).mono (by omega)⟩, But.below ((Below.refl _ _).alloc (Nat.le_refl _) _), gof_mk (fun v w' => ∃ b : Nat, v = .slice (some ⟨b, 0, none⟩) 5 5 ∧ b ≠ w.heap.size ∧ Blk w' b 3 flagsL) rfl <|  ⟨wv.heap.size, rfl, hgv, Blk.new wv 3 flagsL⟩⟩
      refine allsteps_cons 12 13 rfl (fun av wv cv HJ hcv HX HD => ?_) ?_
      · skip
        have e_6 := (HX.out 6 rfl).trans x_6
        clear HX HD x_7 x_6
        refine did_value ?_ wv ?_ ⟨(fun h => ⟨h.1, h.2.mono (by omega)⟩) HJ.out, But.refl _ wv, ?_⟩
        rotate_left
        · go_simp
          rfl
        · exact rfl
      refine allsteps_cons 13 14 rfl (fun av wv cv HJ hcv HX HD => ?_) ?_
      · skip
        obtain ⟨v_32, e_32⟩ : ∃ v, evOf av (.tmp 32) = v := ⟨_, rfl⟩
        have g_32 : ((fun v _ => v = .pointer (some ⟨w.heap.size, 0, none⟩)) : Value → World → Prop) v_32 wv := by have h := HD.out 12 32 rfl; rw [e_32] at h; exact h
        have g_32 : v_32 = .pointer (some ⟨w.heap.size, 0, none⟩) := g_32
        subst g_32
        clear HX HD x_7 x_6
        refine did_call _ _ (by go_simp; first | rfl | (constructor <;> rfl)) ?_
        refine (curPick w.heap.size A n c (10 + 2 * (cv : Int)) 5 4 wv HJ.out.2 hn (by omega) (by omega) (by omega) (by omega)).mono ?_
        rintro e w5 ⟨r, rfl, r0, r1, hb, hc⟩
        exact ⟨_, rfl, ⟨HJ.out.1.trans hb, hc.mono (by omega)⟩, hb, gof_mk (fun v _ => ∃ r : Int, v = .int .i64 r ∧ 0 ≤ r ∧ r ≤ 4) rfl <|  ⟨r, rfl, r0, r1⟩⟩
      refine allsteps_cons 14 15 rfl (fun av wv cv HJ hcv HX HD => ?_) ?_
      · skip
        obtain ⟨v_31, e_31⟩ : ∃ v, evOf av (.tmp 31) = v := ⟨_, rfl⟩
        have g_31 : ((fun v w' => ∃ b : Nat, v = .slice (some ⟨b, 0, none⟩) 5 5 ∧ b ≠ w.heap.size ∧ Blk w' b 3 flagsL) : Value → World → Prop) v_31 wv := by have h := HD.out 11 31 rfl; rw [e_31] at h; exact h
        obtain ⟨b, rfl, hb, hk⟩ := g_31
        obtain ⟨v_33, e_33⟩ : ∃ v, evOf av (.tmp 33) = v := ⟨_, rfl⟩
        have g_33 : ((fun v _ => ∃ r : Int, v = .int .i64 r ∧ 0 ≤ r ∧ r ≤ 4) : Value → World → Prop) v_33 wv := by have h := HD.out 13 33 rfl; rw [e_33] at h; exact h
        obtain ⟨r, rfl, r0, r1⟩ := g_33
        clear HX HD x_7 x_6
        obtain ⟨k, rfl⟩ := Int.eq_ofNat_of_zero_le r0
        have hk3 : k < 5 := by omega
        have hk3i : (k : Int) < 5 := by omega
        refine did_value (.pointer (some ⟨b, k, none⟩)) wv (by go_simp <;> rfl) ⟨⟨HJ.out.1, HJ.out.2.mono (by omega)⟩, But.refl _ _, gof_mk (fun v w' => ∃ b k : Nat, v = .pointer (some ⟨b, k, none⟩) ∧ k < 5 ∧ b ≠ w.heap.size ∧ Blk w' b 3 flagsL) rfl <|  ⟨b, k, rfl, hk3, hb, hk⟩⟩
      refine allsteps_cons 15 16 rfl (fun av wv cv HJ hcv HX HD => ?_) ?_
      · skip
        obtain ⟨v_34, e_34⟩ : ∃ v, evOf av (.tmp 34) = v := ⟨_, rfl⟩
        have g_34 : ((fun v w' => ∃ b k : Nat, v = .pointer (some ⟨b, k, none⟩) ∧ k < 5 ∧ b ≠ w.heap.size ∧ Blk w' b 3 flagsL) : Value → World → Prop) v_34 wv := by have h := HD.out 14 34 rfl; rw [e_34] at h; exact h
        obtain ⟨b, k, rfl, hk3, hb, hk⟩ := g_34
        clear HX HD x_7 x_6
        obtain ⟨y, hy, hy1, hy2⟩ := flagsL_at k hk3
        have hc := (hk.cell k).trans hy
        refine did_value (.int .i64 y) wv (by go_simp <;> rfl) ⟨⟨HJ.out.1, HJ.out.2.mono (by omega)⟩, But.refl _ _, gof_mk (fun v _ => ∃ z : Int, v = .int .i64 z ∧ -1 ≤ z ∧ z ≤ 65536) rfl <|  ⟨y, rfl, hy1, hy2⟩⟩
      refine allsteps_cons 16 17 rfl (fun av wv cv HJ hcv HX HD => ?_) ?_
      · skip
        clear HX HD x_7 x_6
        have hgv : wv.heap.size ≠ w.heap.size := by have h1 := HJ.out.1.size; have h2 := hg4; omega
        refine did_value (.slice (some ⟨wv.heap.size, 0, none⟩) 5 5) (wv.alloc (.cells minesL.toArray 3)) (by go_simp <;> rfl) ⟨⟨HJ.out.1.trans (But.below ((Below.refl _ _).alloc (Nat.le_refl _) _)), (HJ.out.2.below ((Below.refl _ _).alloc (Nat.le_refl _) _)).mono (by omega)⟩, But.below ((Below.refl _ _).alloc (Nat.le_refl _) _), gof_mk (fun v w' => ∃ b : Nat, v = .slice (some ⟨b, 0, none⟩) 5 5 ∧ b ≠ w.heap.size ∧ Blk w' b 3 minesL) rfl <|  ⟨wv.heap.size, rfl, hgv, Blk.new wv 3 minesL⟩⟩
      refine allsteps_cons 17 18 rfl (fun av wv cv HJ hcv HX HD => ?_) ?_
      · skip
        have e_6 := (HX.out 6 rfl).trans x_6
        clear HX HD x_7 x_6
        refine did_value ?_ wv ?_ ⟨(fun h => ⟨h.1, h.2.mono (by omega)⟩) HJ.out, But.refl _ wv, ?_⟩
        rotate_left
        · go_simp
          rfl
        · exact rfl
      refine allsteps_cons 18 19 rfl (fun av wv cv HJ hcv HX HD => ?_) ?_
      · skip
        obtain ⟨v_37, e_37⟩ : ∃ v, evOf av (.tmp 37) = v := ⟨_, rfl⟩
        have g_37 : ((fun v _ => v = .pointer (some ⟨w.heap.size, 0, none⟩)) : Value → World → Prop) v_37 wv := by have h := HD.out 17 37 rfl; rw [e_37] at h; exact h
        have g_37 : v_37 = .pointer (some ⟨w.heap.size, 0, none⟩) := g_37
        subst g_37
        clear HX HD x_7 x_6
        refine did_call _ _ (by go_simp; first | rfl | (constructor <;> rfl)) ?_
        refine (curPick w.heap.size A n c (10 + 2 * (cv : Int)) 5 4 wv HJ.out.2 hn (by omega) (by omega) (by omega) (by omega)).mono ?_
        rintro e w5 ⟨r, rfl, r0, r1, hb, hc⟩
        exact ⟨_, rfl, ⟨HJ.out.1.trans hb, hc.mono (by omega)⟩, hb, gof_mk (fun v _ => ∃ r : Int, v = .int .i64 r ∧ 0 ≤ r ∧ r ≤ 4) rfl <|  ⟨r, rfl, r0, r1⟩⟩
      refine allsteps_cons 19 20 rfl (fun av wv cv HJ hcv HX HD => ?_) ?_
      · skip
        obtain ⟨v_36, e_36⟩ : ∃ v, evOf av (.tmp 36) = v := ⟨_, rfl⟩
        have g_36 : ((fun v w' => ∃ b : Nat, v = .slice (some ⟨b, 0, none⟩) 5 5 ∧ b ≠ w.heap.size ∧ Blk w' b 3 minesL) : Value → World → Prop) v_36 wv := by have h := HD.out 16 36 rfl; rw [e_36] at h; exact h
        obtain ⟨b, rfl, hb, hk⟩ := g_36
        obtain ⟨v_38, e_38⟩ : ∃ v, evOf av (.tmp 38) = v := ⟨_, rfl⟩
        have g_38 : ((fun v _ => ∃ r : Int, v = .int .i64 r ∧ 0 ≤ r ∧ r ≤ 4) : Value → World → Prop) v_38 wv := by have h := HD.out 18 38 rfl; rw [e_38] at h; exact h
        obtain ⟨r, rfl, r0, r1⟩ := g_38
        clear HX HD x_7 x_6
        obtain ⟨k, rfl⟩ := Int.eq_ofNat_of_zero_le r0
        have hk3 : k < 5 := by omega
        have hk3i : (k : Int) < 5 := by omega
        refine did_value (.pointer (some ⟨b, k, none⟩)) wv (by go_simp <;> rfl) ⟨⟨HJ.out.1, HJ.out.2.mono (by omega)⟩, But.refl _ _, gof_mk (fun v w' => ∃ b k : Nat, v = .pointer (some ⟨b, k, none⟩) ∧ k < 5 ∧ b ≠ w.heap.size ∧ Blk w' b 3 minesL) rfl <|  ⟨b, k, rfl, hk3, hb, hk⟩⟩
      refine allsteps_cons 20 21 rfl (fun av wv cv HJ hcv HX HD => ?_) ?_
      · skip
        obtain ⟨v_39, e_39⟩ : ∃ v, evOf av (.tmp 39) = v := ⟨_, rfl⟩
        have g_39 : ((fun v w' => ∃ b k : Nat, v = .pointer (some ⟨b, k, none⟩) ∧ k < 5 ∧ b ≠ w.heap.size ∧ Blk w' b 3 minesL) : Value → World → Prop) v_39 wv := by have h := HD.out 19 39 rfl; rw [e_39] at h; exact h
        obtain ⟨b, k, rfl, hk3, hb, hk⟩ := g_39
        clear HX HD x_7 x_6
        obtain ⟨y, hy, hy1, hy2⟩ := minesL_at k hk3
        have hc := (hk.cell k).trans hy
        refine did_value (.int .i64 y) wv (by go_simp <;> rfl) ⟨⟨HJ.out.1, HJ.out.2.mono (by omega)⟩, But.refl _ _, gof_mk (fun v _ => ∃ z : Int, v = .int .i64 z ∧ -1 ≤ z ∧ z ≤ 4294967296) rfl <|  ⟨y, rfl, hy1, hy2⟩⟩
      refine allsteps_cons 21 22 rfl (fun av wv cv HJ hcv HX HD => ?_) ?_
      · skip
        obtain ⟨v_20, e_20⟩ : ∃ v, evOf av (.tmp 20) = v := ⟨_, rfl⟩
        have g_20 : ((fun v _ => v = .string s) : Value → World → Prop) v_20 wv := by have h := HD.out 0 20 rfl; rw [e_20] at h; exact h
        have g_20 : v_20 = .string s := g_20
        subst g_20
        clear HX HD x_7 x_6
        refine did_value ?_ wv ?_ ⟨(fun h => ⟨h.1, h.2.mono (by omega)⟩) HJ.out, But.refl _ wv, ?_⟩
        rotate_left
        · go_simp
          rfl
        · exact rfl
      refine allsteps_cons 22 23 rfl (fun av wv cv HJ hcv HX HD => ?_) ?_
      · skip
        obtain ⟨v_30, e_30⟩ : ∃ v, evOf av (.tmp 30) = v := ⟨_, rfl⟩
        have g_30 : ((fun v _ => ∃ x : ByteArray, v = .string x ∧ x.size ≤ 101) : Value → World → Prop) v_30 wv := by have h := HD.out 10 30 rfl; rw [e_30] at h; exact h
        obtain ⟨x10, rfl, hx10⟩ := g_30
        clear HX HD x_7 x_6
        refine did_value ?_ wv ?_ ⟨(fun h => ⟨h.1, h.2.mono (by omega)⟩) HJ.out, But.refl _ wv, ?_⟩
        rotate_left
        · go_simp
          rfl
        · exact (gof_mk (fun v _ => ∃ x : ByteArray, v = .string x ∧ x.size ≤ 101) rfl <|  ⟨_, rfl, hx10⟩)
      refine allsteps_cons 23 24 rfl (fun av wv cv HJ hcv HX HD => ?_) ?_
      · skip
        obtain ⟨v_35, e_35⟩ : ∃ v, evOf av (.tmp 35) = v := ⟨_, rfl⟩
        have g_35 : ((fun v _ => ∃ z : Int, v = .int .i64 z ∧ -1 ≤ z ∧ z ≤ 65536) : Value → World → Prop) v_35 wv := by have h := HD.out 15 35 rfl; rw [e_35] at h; exact h
        obtain ⟨z, rfl, hz0, hz1⟩ := g_35
        clear HX HD x_7 x_6
        refine did_value ?_ wv ?_ ⟨(fun h => ⟨h.1, h.2.mono (by omega)⟩) HJ.out, But.refl _ wv, ?_⟩
        rotate_left
        · go_simp
          rfl
        · exact (gof_mk (fun v _ => ∃ z : Int, v = .int .i64 z ∧ -1 ≤ z ∧ z ≤ 65536) rfl <|  ⟨_, rfl, hz0, hz1⟩)
      refine allsteps_cons 24 25 rfl (fun av wv cv HJ hcv HX HD => ?_) ?_
      · skip
        obtain ⟨v_40, e_40⟩ : ∃ v, evOf av (.tmp 40) = v := ⟨_, rfl⟩
        have g_40 : ((fun v _ => ∃ z : Int, v = .int .i64 z ∧ -1 ≤ z ∧ z ≤ 4294967296) : Value → World → Prop) v_40 wv := by have h := HD.out 20 40 rfl; rw [e_40] at h; exact h
        obtain ⟨z, rfl, hz0, hz1⟩ := g_40
        clear HX HD x_7 x_6
        refine did_value ?_ wv ?_ ⟨(fun h => ⟨h.1, h.2.mono (by omega)⟩) HJ.out, But.refl _ wv, ?_⟩
        rotate_left
        · go_simp
          rfl
        · exact (gof_mk (fun v _ => ∃ z : Int, v = .int .i64 z ∧ -1 ≤ z ∧ z ≤ 4294967296) rfl <|  ⟨_, rfl, hz0, hz1⟩)
      exact allsteps_nil _
    have hf := HF.out
    have g_20 : ((fun v _ => v = .string s) : Value → World → Prop) (fv 20) wz := hf 0 20 rfl
    have g_21 : ((fun v _ => v = .pointer (some ⟨w.heap.size, 0, none⟩)) : Value → World → Prop) (fv 21) wz := hf 1 21 rfl
    have g_22 : ((fun v _ => ∃ r : Int, v = .int .i64 r ∧ 0 ≤ r ∧ r ≤ 1) : Value → World → Prop) (fv 22) wz := hf 2 22 rfl
    have g_23 : ((fun v _ => ∃ r : Int, v = .int .i64 r ∧ 0 ≤ r ∧ r ≤ 101) : Value → World → Prop) (fv 23) wz := hf 3 23 rfl
    have g_24 : ((fun v w' => ∃ m b : Nat, v = .slice (some ⟨b, 0, none⟩) m m ∧ m ≤ 101 ∧ b ≠ w.heap.size ∧ Blk w' b 5 (List.replicate m (Value.int .u8 0))) : Value → World → Prop) (fv 24) wz := hf 4 24 rfl
    have g_25 : ((fun v _ => ∃ x : ByteArray, v = .string x ∧ x.size ≤ 101) : Value → World → Prop) (fv 25) wz := hf 5 25 rfl
    have g_26 : ((fun v w' => ∃ (b : Nat) (x : ByteArray), v = .slice (some ⟨b, 0, none⟩) 3 3 ∧ x.size ≤ 101 ∧ b ≠ w.heap.size ∧ Blk w' b 9 (keysL x)) : Value → World → Prop) (fv 26) wz := hf 6 26 rfl
    have g_27 : ((fun v _ => v = .pointer (some ⟨w.heap.size, 0, none⟩)) : Value → World → Prop) (fv 27) wz := hf 7 27 rfl
    have g_28 : ((fun v _ => ∃ r : Int, v = .int .i64 r ∧ 0 ≤ r ∧ r ≤ 2) : Value → World → Prop) (fv 28) wz := hf 8 28 rfl
    have g_29 : ((fun v w' => ∃ (b k : Nat) (x : ByteArray), v = .pointer (some ⟨b, k, none⟩) ∧ k < 3 ∧ x.size ≤ 101 ∧ b ≠ w.heap.size ∧ Blk w' b 9 (keysL x)) : Value → World → Prop) (fv 29) wz := hf 9 29 rfl
    have g_30 : ((fun v _ => ∃ x : ByteArray, v = .string x ∧ x.size ≤ 101) : Value → World → Prop) (fv 30) wz := hf 10 30 rfl
    have g_31 : ((fun v w' => ∃ b : Nat, v = .slice (some ⟨b, 0, none⟩) 5 5 ∧ b ≠ w.heap.size ∧ Blk w' b 3 flagsL) : Value → World → Prop) (fv 31) wz := hf 11 31 rfl
    have g_32 : ((fun v _ => v = .pointer (some ⟨w.heap.size, 0, none⟩)) : Value → World → Prop) (fv 32) wz := hf 12 32 rfl
    have g_33 : ((fun v _ => ∃ r : Int, v = .int .i64 r ∧ 0 ≤ r ∧ r ≤ 4) : Value → World → Prop) (fv 33) wz := hf 13 33 rfl
    have g_34 : ((fun v w' => ∃ b k : Nat, v = .pointer (some ⟨b, k, none⟩) ∧ k < 5 ∧ b ≠ w.heap.size ∧ Blk w' b 3 flagsL) : Value → World → Prop) (fv 34) wz := hf 14 34 rfl
    have g_35 : ((fun v _ => ∃ z : Int, v = .int .i64 z ∧ -1 ≤ z ∧ z ≤ 65536) : Value → World → Prop) (fv 35) wz := hf 15 35 rfl
    have g_36 : ((fun v w' => ∃ b : Nat, v = .slice (some ⟨b, 0, none⟩) 5 5 ∧ b ≠ w.heap.size ∧ Blk w' b 3 minesL) : Value → World → Prop) (fv 36) wz := hf 16 36 rfl
    have g_37 : ((fun v _ => v = .pointer (some ⟨w.heap.size, 0, none⟩)) : Value → World → Prop) (fv 37) wz := hf 17 37 rfl
    have g_38 : ((fun v _ => ∃ r : Int, v = .int .i64 r ∧ 0 ≤ r ∧ r ≤ 4) : Value → World → Prop) (fv 38) wz := hf 18 38 rfl
    have g_39 : ((fun v w' => ∃ b k : Nat, v = .pointer (some ⟨b, k, none⟩) ∧ k < 5 ∧ b ≠ w.heap.size ∧ Blk w' b 3 minesL) : Value → World → Prop) (fv 39) wz := hf 19 39 rfl
    have g_40 : ((fun v _ => ∃ z : Int, v = .int .i64 z ∧ -1 ≤ z ∧ z ≤ 4294967296) : Value → World → Prop) (fv 40) wz := hf 20 40 rfl
    have g_2 : ((fun v _ => v = .string s) : Value → World → Prop) (fv 2) wz := hf 21 2 rfl
    have g_3 : ((fun v _ => ∃ x : ByteArray, v = .string x ∧ x.size ≤ 101) : Value → World → Prop) (fv 3) wz := hf 22 3 rfl
    have g_4 : ((fun v _ => ∃ z : Int, v = .int .i64 z ∧ -1 ≤ z ∧ z ≤ 65536) : Value → World → Prop) (fv 4) wz := hf 23 4 rfl
    have g_5 : ((fun v _ => ∃ z : Int, v = .int .i64 z ∧ -1 ≤ z ∧ z ≤ 4294967296) : Value → World → Prop) (fv 5) wz := hf 24 5 rfl
    clear hf HF
    simp only [List.map_cons, List.map_nil, putAll, Act.put, List.setIfInBounds_toArray, List.set_cons_succ, List.set_cons_zero]
    have HZ := HJ.out.1
    have g_2 : fv 2 = .string s := g_2
    obtain ⟨key, g_3, hkey⟩ := g_3
    obtain ⟨flags, g_4, hf⟩ := g_4
    obtain ⟨mine, g_5, hmi⟩ := g_5
    rw [g_2, g_3, g_4, g_5]
    have HF := Aside.mk hf
    have HMI := Aside.mk hmi
    have HK := Aside.mk hkey
    have HZ := Aside.mk HZ
    clear g_2 g_3 g_4 g_5 g_20 g_21 g_22 g_23 g_24 g_25 g_26 g_27 g_28 g_29 g_30 g_31 g_32 g_33 g_34 g_35 g_36 g_37 g_38 g_39 g_40 hf hmi hkey
    go_wp2_with fail
    exact bodyPost_ret (res_four rfl _ _ _) rfl ⟨s, key, flags, mine, rfl, by first | exact hnm | exact HM4.out, HK.out, HF.out, HMI.out, curBelow HB4.out HZ.out⟩
  · go_wp2_with fail
    refine region_free 41 25 [(0, 20), (1, 21), (2, 22), (3, 23), (4, 24), (5, 25), (6, 26), (7, 27), (8, 28), (9, 29), (10, 30), (11, 31), (12, 32), (13, 33), (14, 34), (15, 35), (16, 36), (17, 37), (18, 38), (19, 39), (20, 40), (21, 2), (22, 3), (23, 4), (24, 5)] [(2, 1, 21), (3, 2, 22), (4, 3, 23), (5, 4, 24), (6, 5, 25), (8, 7, 27), (9, 6, 26), (9, 8, 28), (10, 9, 29), (13, 12, 32), (14, 11, 31), (14, 13, 33), (15, 14, 34), (18, 17, 37), (19, 16, 36), (19, 18, 38), (20, 19, 39), (21, 0, 20), (22, 10, 30), (23, 15, 35), (24, 20, 40)] (fun c' w' => But (AtG w.heap.size) w3 w' ∧ CurOK w' w.heap.size A n c (10 + 2 * (c' : Int))) (fun w1 w2 => But (AtG w.heap.size) w1 w2) [(0, fun v _ => v = .string nm), (1, fun v _ => v = .pointer (some ⟨w.heap.size, 0, none⟩)), (2, fun v _ => ∃ r : Int, v = .int .i64 r ∧ 0 ≤ r ∧ r ≤ 1), (3, fun v _ => ∃ r : Int, v = .int .i64 r ∧ 0 ≤ r ∧ r ≤ 101), (4, fun v w' => ∃ m b : Nat, v = .slice (some ⟨b, 0, none⟩) m m ∧ m ≤ 101 ∧ b ≠ w.heap.size ∧ Blk w' b 5 (List.replicate m (Value.int .u8 0))), (5, fun v _ => ∃ x : ByteArray, v = .string x ∧ x.size ≤ 101), (6, fun v w' => ∃ (b : Nat) (x : ByteArray), v = .slice (some ⟨b, 0, none⟩) 3 3 ∧ x.size ≤ 101 ∧ b ≠ w.heap.size ∧ Blk w' b 9 (keysL x)), (7, fun v _ => v = .pointer (some ⟨w.heap.size, 0, none⟩)), (8, fun v _ => ∃ r : Int, v = .int .i64 r ∧ 0 ≤ r ∧ r ≤ 2), (9, fun v w' => ∃ (b k : Nat) (x : ByteArray), v = .pointer (some ⟨b, k, none⟩) ∧ k < 3 ∧ x.size ≤ 101 ∧ b ≠ w.heap.size ∧ Blk w' b 9 (keysL x)), (10, fun v _ => ∃ x : ByteArray, v = .string x ∧ x.size ≤ 101), (11, fun v w' => ∃ b : Nat, v = .slice (some ⟨b, 0, none⟩) 5 5 ∧ b ≠ w.heap.size ∧ Blk w' b 3 flagsL), (12, fun v _ => v = .pointer (some ⟨w.heap.size, 0, none⟩)), (13, fun v _ => ∃ r : Int, v = .int .i64 r ∧ 0 ≤ r ∧ r ≤ 4), (14, fun v w' => ∃ b k : Nat, v = .pointer (some ⟨b, k, none⟩) ∧ k < 5 ∧ b ≠ w.heap.size ∧ Blk w' b 3 flagsL), (15, fun v _ => ∃ z : Int, v = .int .i64 z ∧ -1 ≤ z ∧ z ≤ 65536), (16, fun v w' => ∃ b : Nat, v = .slice (some ⟨b, 0, none⟩) 5 5 ∧ b ≠ w.heap.size ∧ Blk w' b 3 minesL), (17, fun v _ => v = .pointer (some ⟨w.heap.size, 0, none⟩)), (18, fun v _ => ∃ r : Int, v = .int .i64 r ∧ 0 ≤ r ∧ r ≤ 4), (19, fun v w' => ∃ b k : Nat, v = .pointer (some ⟨b, k, none⟩) ∧ k < 5 ∧ b ≠ w.heap.size ∧ Blk w' b 3 minesL), (20, fun v _ => ∃ z : Int, v = .int .i64 z ∧ -1 ≤ z ∧ z ≤ 4294967296), (21, fun v _ => v = .string nm), (22, fun v _ => ∃ x : ByteArray, v = .string x ∧ x.size ≤ 101), (23, fun v _ => ∃ z : Int, v = .int .i64 z ∧ -1 ≤ z ∧ z ≤ 65536), (24, fun v _ => ∃ z : Int, v = .int .i64 z ∧ -1 ≤ z ∧ z ≤ 4294967296)] rfl (by kernel_rfl) rfl (by kernel_rfl) (by kernel_rfl) (allstab_cons (fun _ _ _ _ h => h) (allstab_cons (fun _ _ _ _ h => h) (allstab_cons (fun _ _ _ _ h => h) (allstab_cons (fun _ _ _ _ h => h) (allstab_cons (fun u w1 w2 hS ⟨m, b, e, hm, hb, hk⟩ => ⟨m, b, e, hm, hb, Blk.but hk hS hb⟩) (allstab_cons (fun _ _ _ _ h => h) (allstab_cons (fun u w1 w2 hS ⟨b, x, e, hm, hb, hk⟩ => ⟨b, x, e, hm, hb, Blk.but hk hS hb⟩) (allstab_cons (fun _ _ _ _ h => h) (allstab_cons (fun _ _ _ _ h => h) (allstab_cons (fun u w1 w2 hS ⟨b, k, x, e, h3, hm, hb, hk⟩ => ⟨b, k, x, e, h3, hm, hb, Blk.but hk hS hb⟩) (allstab_cons (fun _ _ _ _ h => h) (allstab_cons (fun u w1 w2 hS ⟨b, e, hb, hk⟩ => ⟨b, e, hb, Blk.but hk hS hb⟩) (allstab_cons (fun _ _ _ _ h => h) (allstab_cons (fun _ _ _ _ h => h) (allstab_cons (fun u w1 w2 hS ⟨b, k, e, h3, hb, hk⟩ => ⟨b, k, e, h3, hb, Blk.but hk hS hb⟩) (allstab_cons (fun _ _ _ _ h => h) (allstab_cons (fun u w1 w2 hS ⟨b, e, hb, hk⟩ => ⟨b, e, hb, Blk.but hk hS hb⟩) (allstab_cons (fun _ _ _ _ h => h) (allstab_cons (fun _ _ _ _ h => h) (allstab_cons (fun u w1 w2 hS ⟨b, k, e, h3, hb, hk⟩ => ⟨b, k, e, h3, hb, Blk.but hk hS hb⟩) (allstab_cons (fun _ _ _ _ h => h) (allstab_cons (fun _ _ _ _ h => h) (allstab_cons (fun _ _ _ _ h => h) (allstab_cons (fun _ _ _ _ h => h) (allstab_cons (fun _ _ _ _ h => h) (allstab_nil)))))))))))))))))))))))))) (⟨but_drew (But.refl _ _), (HC3.out.below (Below.refl _ _).drew).mono (by omega)⟩) (fun fr HFR => ?_) (fun fv wz HJ HF => ?_)
    · 
      have x_7 : ext fr 7 = _ := congrArg (fun a => Act.eval a (.tmp 7)) HFR.out
      conv at x_7 => rhs; simp only [Act.eval, Array.getD_eq_getD_getElem?, List.getElem?_toArray, List.getElem?_cons_succ, List.getElem?_cons_zero, Option.getD_some]
      have x_6 : ext fr 6 = _ := congrArg (fun a => Act.eval a (.tmp 6)) HFR.out
      conv at x_6 => rhs; simp only [Act.eval, Array.getD_eq_getD_getElem?, List.getElem?_toArray, List.getElem?_cons_succ, List.getElem?_cons_zero, Option.getD_some]
      refine allsteps_cons 0 1 rfl (fun av wv cv HJ hcv HX HD => ?_) ?_
      · skip
        have e_7 := (HX.out 7 rfl).trans x_7
        clear HX HD x_7 x_6
        refine did_value ?_ wv ?_ ⟨(fun h => ⟨h.1, h.2.mono (by omega)⟩) HJ.out, But.refl _ wv, ?_⟩
        rotate_left
        · go_simp
          rfl
        · exact rfl
      refine allsteps_cons 1 2 rfl (fun av wv cv HJ hcv HX HD => ?_) ?_
      · skip
        have e_6 := (HX.out 6 rfl).trans x_6
        clear HX HD x_7 x_6
        refine did_value ?_ wv ?_ ⟨(fun h => ⟨h.1, h.2.mono (by omega)⟩) HJ.out, But.refl _ wv, ?_⟩
        rotate_left
        · go_simp
          rfl
        · exact rfl
      refine allsteps_cons 2 3 rfl (fun av wv cv HJ hcv HX HD => ?_) ?_
      · skip
        obtain ⟨v_21, e_21⟩ : ∃ v, evOf av (.tmp 21) = v := ⟨_, rfl⟩
        have g_21 : ((fun v _ => v = .pointer (some ⟨w.heap.size, 0, none⟩)) : Value → World → Prop) v_21 wv := by have h := HD.out 1 21 rfl; rw [e_21] at h; exact h
        have g_21 : v_21 = .pointer (some ⟨w.heap.size, 0, none⟩) := g_21
        subst g_21
        clear HX HD x_7 x_6
        refine did_call _ _ (by go_simp; first | rfl | (constructor <;> rfl)) ?_
        refine (curPick w.heap.size A n c (10 + 2 * (cv : Int)) 2 1 wv HJ.out.2 hn (by omega) (by omega) (by omega) (by omega)).mono ?_
        rintro e w5 ⟨r, rfl, r0, r1, hb, hc⟩
        exact ⟨_, rfl, ⟨HJ.out.1.trans hb, hc.mono (by omega)⟩, hb, gof_mk (fun v _ => ∃ r : Int, v = .int .i64 r ∧ 0 ≤ r ∧ r ≤ 1) rfl <|  ⟨r, rfl, r0, r1⟩⟩
      refine allsteps_cons 3 4 rfl (fun av wv cv HJ hcv HX HD => ?_) ?_
      · skip
        obtain ⟨v_22, e_22⟩ : ∃ v, evOf av (.tmp 22) = v := ⟨_, rfl⟩
        have g_22 : ((fun v _ => ∃ r : Int, v = .int .i64 r ∧ 0 ≤ r ∧ r ≤ 1) : Value → World → Prop) v_22 wv := by have h := HD.out 2 22 rfl; rw [e_22] at h; exact h
        obtain ⟨r, rfl, r0, r1⟩ := g_22
        clear HX HD x_7 x_6
        refine did_value ?_ wv ?_ ⟨(fun h => ⟨h.1, h.2.mono (by omega)⟩) HJ.out, But.refl _ wv, ?_⟩
        rotate_left
        · go_simp
          rfl
        · exact (gof_mk (fun v _ => ∃ r : Int, v = .int .i64 r ∧ 0 ≤ r ∧ r ≤ 101) rfl <|  ⟨_, rfl, by rw [IntKind.wrap_i64]; omega, by rw [IntKind.wrap_i64]; omega⟩)
      refine allsteps_cons 4 5 rfl (fun av wv cv HJ hcv HX HD => ?_) ?_
      · skip
        obtain ⟨v_23, e_23⟩ : ∃ v, evOf av (.tmp 23) = v := ⟨_, rfl⟩
        have g_23 : ((fun v _ => ∃ r : Int, v = .int .i64 r ∧ 0 ≤ r ∧ r ≤ 101) : Value → World → Prop) v_23 wv := by have h := HD.out 3 23 rfl; rw [e_23] at h; exact h
        obtain ⟨r, rfl, r0, r1⟩ := g_23
        clear HX HD x_7 x_6
        have hgv : wv.heap.size ≠ w.heap.size := by have h1 := HJ.out.1.size; have h2 := hg3; omega
        refine did_value _ _ (by go_simp; rw [zeros_made wv r r0 r1]; rfl) ⟨⟨HJ.out.1.trans (But.below ((Below.refl _ _).alloc (Nat.le_refl _) _)), (HJ.out.2.below ((Below.refl _ _).alloc (Nat.le_refl _) _)).mono (by omega)⟩, But.below ((Below.refl _ _).alloc (Nat.le_refl _) _), gof_mk (fun v w' => ∃ m b : Nat, v = .slice (some ⟨b, 0, none⟩) m m ∧ m ≤ 101 ∧ b ≠ w.heap.size ∧ Blk w' b 5 (List.replicate m (Value.int .u8 0))) rfl <|  ⟨r.toNat, wv.heap.size, rfl, by omega, hgv, Blk.new wv 5 _⟩⟩
      refine allsteps_cons 5 6 rfl (fun av wv cv HJ hcv HX HD => ?_) ?_
      · skip
        obtain ⟨v_24, e_24⟩ : ∃ v, evOf av (.tmp 24) = v := ⟨_, rfl⟩
        have g_24 : ((fun v w' => ∃ m b : Nat, v = .slice (some ⟨b, 0, none⟩) m m ∧ m ≤ 101 ∧ b ≠ w.heap.size ∧ Blk w' b 5 (List.replicate m (Value.int .u8 0))) : Value → World → Prop) v_24 wv := by have h := HD.out 4 24 rfl; rw [e_24] at h; exact h
        obtain ⟨m, b, rfl, hm, hb, hk⟩ := g_24
        clear HX HD x_7 x_6
        refine did_value _ wv (by go_simp; rw [zeros_text wv b m hk]; rfl) ⟨⟨HJ.out.1, HJ.out.2.mono (by omega)⟩, But.refl _ _, gof_mk (fun v _ => ∃ x : ByteArray, v = .string x ∧ x.size ≤ 101) rfl <|  ⟨_, rfl, by rw [strOfNums_size]; simpa using hm⟩⟩
      refine allsteps_cons 6 7 rfl (fun av wv cv HJ hcv HX HD => ?_) ?_
      · skip
        obtain ⟨v_25, e_25⟩ : ∃ v, evOf av (.tmp 25) = v := ⟨_, rfl⟩
        have g_25 : ((fun v _ => ∃ x : ByteArray, v = .string x ∧ x.size ≤ 101) : Value → World → Prop) v_25 wv := by have h := HD.out 5 25 rfl; rw [e_25] at h; exact h
        obtain ⟨x5, rfl, hx5⟩ := g_25
        clear HX HD x_7 x_6
        have hgv : wv.heap.size ≠ w.heap.size := by have h1 := HJ.out.1.size; have h2 := hg3; omega
        refine did_value (.slice (some ⟨wv.heap.size, 0, none⟩) 3 3) (wv.alloc (.cells (keysL x5).toArray 9)) (by go_simp <;> rfl) ⟨⟨HJ.out.1.trans (But.below ((Below.refl _ _).alloc (Nat.le_refl _) _)), (HJ.out.2.below ((Below.refl _ _).alloc (Nat.le_refl _) _)).mono (by omega)⟩, But.below ((Below.refl _ _).alloc (Nat.le_refl _) _), gof_mk (fun v w' => ∃ (b : Nat) (x : ByteArray), v = .slice (some ⟨b, 0, none⟩) 3 3 ∧ x.size ≤ 101 ∧ b ≠ w.heap.size ∧ Blk w' b 9 (keysL x)) rfl <|  ⟨wv.heap.size, x5, rfl, hx5, hgv, Blk.new wv 9 (keysL x5)⟩⟩
      refine allsteps_cons 7 8 rfl (fun av wv cv HJ hcv HX HD => ?_) ?_
      · skip
        have e_6 := (HX.out 6 rfl).trans x_6
        clear HX HD x_7 x_6
        refine did_value ?_ wv ?_ ⟨(fun h => ⟨h.1, h.2.mono (by omega)⟩) HJ.out, But.refl _ wv, ?_⟩
        rotate_left
        · go_simp
          rfl
        · exact rfl
      refine allsteps_cons 8 9 rfl (fun av wv cv HJ hcv HX HD => ?_) ?_
      · skip
        obtain ⟨v_27, e_27⟩ : ∃ v, evOf av (.tmp 27) = v := ⟨_, rfl⟩
        have g_27 : ((fun v _ => v = .pointer (some ⟨w.heap.size, 0, none⟩)) : Value → World → Prop) v_27 wv := by have h := HD.out 7 27 rfl; rw [e_27] at h; exact h
        have g_27 : v_27 = .pointer (some ⟨w.heap.size, 0, none⟩) := g_27
        subst g_27
        clear HX HD x_7 x_6
        refine did_call _ _ (by go_simp; first | rfl | (constructor <;> rfl)) ?_
        refine (curPick w.heap.size A n c (10 + 2 * (cv : Int)) 3 2 wv HJ.out.2 hn (by omega) (by omega) (by omega) (by omega)).mono ?_
        rintro e w5 ⟨r, rfl, r0, r1, hb, hc⟩
        exact ⟨_, rfl, ⟨HJ.out.1.trans hb, hc.mono (by omega)⟩, hb, gof_mk (fun v _ => ∃ r : Int, v = .int .i64 r ∧ 0 ≤ r ∧ r ≤ 2) rfl <|  ⟨r, rfl, r0, r1⟩⟩
      refine allsteps_cons 9 10 rfl (fun av wv cv HJ hcv HX HD => ?_) ?_
      · skip
        obtain ⟨v_26, e_26⟩ : ∃ v, evOf av (.tmp 26) = v := ⟨_, rfl⟩
        have g_26 : ((fun v w' => ∃ (b : Nat) (x : ByteArray), v = .slice (some ⟨b, 0, none⟩) 3 3 ∧ x.size ≤ 101 ∧ b ≠ w.heap.size ∧ Blk w' b 9 (keysL x)) : Value → World → Prop) v_26 wv := by have h := HD.out 6 26 rfl; rw [e_26] at h; exact h
        obtain ⟨b, x6, rfl, hx6, hb, hk⟩ := g_26
        obtain ⟨v_28, e_28⟩ : ∃ v, evOf av (.tmp 28) = v := ⟨_, rfl⟩
        have g_28 : ((fun v _ => ∃ r : Int, v = .int .i64 r ∧ 0 ≤ r ∧ r ≤ 2) : Value → World → Prop) v_28 wv := by have h := HD.out 8 28 rfl; rw [e_28] at h; exact h
        obtain ⟨r, rfl, r0, r1⟩ := g_28
        clear HX HD x_7 x_6
        obtain ⟨k, rfl⟩ := Int.eq_ofNat_of_zero_le r0
        have hk3 : k < 3 := by omega
        have hk3i : (k : Int) < 3 := by omega
        refine did_value (.pointer (some ⟨b, k, none⟩)) wv (by go_simp <;> rfl) ⟨⟨HJ.out.1, HJ.out.2.mono (by omega)⟩, But.refl _ _, gof_mk (fun v w' => ∃ (b k : Nat) (x : ByteArray), v = .pointer (some ⟨b, k, none⟩) ∧ k < 3 ∧ x.size ≤ 101 ∧ b ≠ w.heap.size ∧ Blk w' b 9 (keysL x)) rfl <|  ⟨b, k, x6, rfl, hk3, hx6, hb, hk⟩⟩
      refine allsteps_cons 10 11 rfl (fun av wv cv HJ hcv HX HD => ?_) ?_
      · skip
        obtain ⟨v_29, e_29⟩ : ∃ v, evOf av (.tmp 29) = v := ⟨_, rfl⟩
        have g_29 : ((fun v w' => ∃ (b k : Nat) (x : ByteArray), v = .pointer (some ⟨b, k, none⟩) ∧ k < 3 ∧ x.size ≤ 101 ∧ b ≠ w.heap.size ∧ Blk w' b 9 (keysL x)) : Value → World → Prop) v_29 wv := by have h := HD.out 9 29 rfl; rw [e_29] at h; exact h
        obtain ⟨b, k, x6, rfl, hk3, hx6, hb, hk⟩ := g_29
        clear HX HD x_7 x_6
        obtain ⟨y, hy, hy2⟩ := keysL_at x6 hx6 k hk3
        have hc := (hk.cell k).trans hy
        refine did_value (.string y) wv (by go_simp <;> rfl) ⟨⟨HJ.out.1, HJ.out.2.mono (by omega)⟩, But.refl _ _, gof_mk (fun v _ => ∃ x : ByteArray, v = .string x ∧ x.size ≤ 101) rfl <|  ⟨y, rfl, hy2⟩⟩
      refine allsteps_cons 11 12 rfl (fun av wv cv HJ hcv HX HD => ?_) ?_
      · skip
        clear HX HD x_7 x_6
        have hgv : wv.heap.size ≠ w.heap.size := by have h1 := HJ.out.1.size; have h2 := hg3; omega
        refine did_value (.slice (some ⟨wv.heap.size, 0, none⟩) 5 5) (wv.alloc (.cells flagsL.toArray 3)) (by go_simp <;> rfl) ⟨⟨HJ.out.1.trans (But.below ((Below.refl _ _).alloc (Nat.le_refl _) _)), (HJ.out.2.below ((Below.refl _ _).alloc (Nat.le_refl _) _)).mono (by omega)⟩, But.below ((Below.refl _ _).alloc (Nat.le_refl _) _), gof_mk (fun v w' => ∃ b : Nat, v = .slice (some ⟨b, 0, none⟩) 5 5 ∧ b ≠ w.heap.size ∧ Blk w' b 3 flagsL) rfl <|  ⟨wv.heap.size, rfl, hgv, Blk.new wv 3 flagsL⟩⟩
      refine allsteps_cons 12 13 rfl (fun av wv cv HJ hcv HX HD => ?_) ?_
      · skip
        have e_6 := (HX.out 6 rfl).trans x_6
        clear HX HD x_7 x_6
        refine did_value ?_ wv ?_ ⟨(fun h => ⟨h.1, h.2.mono (by omega)⟩) HJ.out, But.refl _ wv, ?_⟩
        rotate_left
        · go_simp
          rfl
        · exact rfl
      refine allsteps_cons 13 14 rfl (fun av wv cv HJ hcv HX HD => ?_) ?_
      · skip
        obtain ⟨v_32, e_32⟩ : ∃ v, evOf av (.tmp 32) = v := ⟨_, rfl⟩
        have g_32 : ((fun v _ => v = .pointer (some ⟨w.heap.size, 0, none⟩)) : Value → World → Prop) v_32 wv := by have h := HD.out 12 32 rfl; rw [e_32] at h; exact h
        have g_32 : v_32 = .pointer (some ⟨w.heap.size, 0, none⟩) := g_32
        subst g_32
        clear HX HD x_7 x_6
        refine did_call _ _ (by go_simp; first | rfl | (constructor <;> rfl)) ?_
        refine (curPick w.heap.size A n c (10 + 2 * (cv : Int)) 5 4 wv HJ.out.2 hn (by omega) (by omega) (by omega) (by omega)).mono ?_
        rintro e w5 ⟨r, rfl, r0, r1, hb, hc⟩
        exact ⟨_, rfl, ⟨HJ.out.1.trans hb, hc.mono (by omega)⟩, hb, gof_mk (fun v _ => ∃ r : Int, v = .int .i64 r ∧ 0 ≤ r ∧ r ≤ 4) rfl <|  ⟨r, rfl, r0, r1⟩⟩
      refine allsteps_cons 14 15 rfl (fun av wv cv HJ hcv HX HD => ?_) ?_
      · skip
        obtain ⟨v_31, e_31⟩ : ∃ v, evOf av (.tmp 31) = v := ⟨_, rfl⟩
        have g_31 : ((fun v w' => ∃ b : Nat, v = .slice (some ⟨b, 0, none⟩) 5 5 ∧ b ≠ w.heap.size ∧ Blk w' b 3 flagsL) : Value → World → Prop) v_31 wv := by have h := HD.out 11 31 rfl; rw [e_31] at h; exact h
        obtain ⟨b, rfl, hb, hk⟩ := g_31
        obtain ⟨v_33, e_33⟩ : ∃ v, evOf av (.tmp 33) = v := ⟨_, rfl⟩
        have g_33 : ((fun v _ => ∃ r : Int, v = .int .i64 r ∧ 0 ≤ r ∧ r ≤ 4) : Value → World → Prop) v_33 wv := by have h := HD.out 13 33 rfl; rw [e_33] at h; exact h
        obtain ⟨r, rfl, r0, r1⟩ := g_33
        clear HX HD x_7 x_6
        obtain ⟨k, rfl⟩ := Int.eq_ofNat_of_zero_le r0
        have hk3 : k < 5 := by omega
        have hk3i : (k : Int) < 5 := by omega
        refine did_value (.pointer (some ⟨b, k, none⟩)) wv (by go_simp <;> rfl) ⟨⟨HJ.out.1, HJ.out.2.mono (by omega)⟩, But.refl _ _, gof_mk (fun v w' => ∃ b k : Nat, v = .pointer (some ⟨b, k, none⟩) ∧ k < 5 ∧ b ≠ w.heap.size ∧ Blk w' b 3 flagsL) rfl <|  ⟨b, k, rfl, hk3, hb, hk⟩⟩
      refine allsteps_cons 15 16 rfl (fun av wv cv HJ hcv HX HD => ?_) ?_
      · skip
        obtain ⟨v_34, e_34⟩ : ∃ v, evOf av (.tmp 34) = v := ⟨_, rfl⟩
        have g_34 : ((fun v w' => ∃ b k : Nat, v = .pointer (some ⟨b, k, none⟩) ∧ k < 5 ∧ b ≠ w.heap.size ∧ Blk w' b 3 flagsL) : Value → World → Prop) v_34 wv := by have h := HD.out 14 34 rfl; rw [e_34] at h; exact h
        obtain ⟨b, k, rfl, hk3, hb, hk⟩ := g_34
        clear HX HD x_7 x_6
        obtain ⟨y, hy, hy1, hy2⟩ := flagsL_at k hk3
        have hc := (hk.cell k).trans hy
        refine did_value (.int .i64 y) wv (by go_simp <;> rfl) ⟨⟨HJ.out.1, HJ.out.2.mono (by omega)⟩, But.refl _ _, gof_mk (fun v _ => ∃ z : Int, v = .int .i64 z ∧ -1 ≤ z ∧ z ≤ 65536) rfl <|  ⟨y, rfl, hy1, hy2⟩⟩
      refine allsteps_cons 16 17 rfl (fun av wv cv HJ hcv HX HD => ?_) ?_
      · skip
        clear HX HD x_7 x_6
        have hgv : wv.heap.size ≠ w.heap.size := by have h1 := HJ.out.1.size; have h2 := hg3; omega
        refine did_value (.slice (some ⟨wv.heap.size, 0, none⟩) 5 5) (wv.alloc (.cells minesL.toArray 3)) (by go_simp <;> rfl) ⟨⟨HJ.out.1.trans (But.below ((Below.refl _ _).alloc (Nat.le_refl _) _)), (HJ.out.2.below ((Below.refl _ _).alloc (Nat.le_refl _) _)).mono (by omega)⟩, But.below ((Below.refl _ _).alloc (Nat.le_refl _) _), gof_mk (fun v w' => ∃ b : Nat, v = .slice (some ⟨b, 0, none⟩) 5 5 ∧ b ≠ w.heap.size ∧ Blk w' b 3 minesL) rfl <|  ⟨wv.heap.size, rfl, hgv, Blk.new wv 3 minesL⟩⟩
      refine allsteps_cons 17 18 rfl (fun av wv cv HJ hcv HX HD => ?_) ?_
      · skip
        have e_6 := (HX.out 6 rfl).trans x_6
        clear HX HD x_7 x_6
        refine did_value ?_ wv ?_ ⟨(fun h => ⟨h.1, h.2.mono (by omega)⟩) HJ.out, But.refl _ wv, ?_⟩
        rotate_left
        · go_simp
          rfl
        · exact rfl
      refine allsteps_cons 18 19 rfl (fun av wv cv HJ hcv HX HD => ?_) ?_
      · skip
        obtain ⟨v_37, e_37⟩ : ∃ v, evOf av (.tmp 37) = v := ⟨_, rfl⟩
        have g_37 : ((fun v _ => v = .pointer (some ⟨w.heap.size, 0, none⟩)) : Value → World → Prop) v_37 wv := by have h := HD.out 17 37 rfl; rw [e_37] at h; exact h
        have g_37 : v_37 = .pointer (some ⟨w.heap.size, 0, none⟩) := g_37
        subst g_37
        clear HX HD x_7 x_6
        refine did_call _ _ (by go_simp; first | rfl | (constructor <;> rfl)) ?_
        refine (curPick w.heap.size A n c (10 + 2 * (cv : Int)) 5 4 wv HJ.out.2 hn (by omega) (by omega) (by omega) (by omega)).mono ?_
        rintro e w5 ⟨r, rfl, r0, r1, hb, hc⟩
        exact ⟨_, rfl, ⟨HJ.out.1.trans hb, hc.mono (by omega)⟩, hb, gof_mk (fun v _ => ∃ r : Int, v = .int .i64 r ∧ 0 ≤ r ∧ r ≤ 4) rfl <|  ⟨r, rfl, r0, r1⟩⟩
      refine allsteps_cons 19 20 rfl (fun av wv cv HJ hcv HX HD => ?_) ?_
      · skip
        obtain ⟨v_36, e_36⟩ : ∃ v, evOf av (.tmp 36) = v := ⟨_, rfl⟩
        have g_36 : ((fun v w' => ∃ b : Nat, v = .slice (some ⟨b, 0, none⟩) 5 5 ∧ b ≠ w.heap.size ∧ Blk w' b 3 minesL) : Value → World → Prop) v_36 wv := by have h := HD.out 16 36 rfl; rw [e_36] at h; exact h
        obtain ⟨b, rfl, hb, hk⟩ := g_36
        obtain ⟨v_38, e_38⟩ : ∃ v, evOf av (.tmp 38) = v := ⟨_, rfl⟩
        have g_38 : ((fun v _ => ∃ r : Int, v = .int .i64 r ∧ 0 ≤ r ∧ r ≤ 4) : Value → World → Prop) v_38 wv := by have h := HD.out 18 38 rfl; rw [e_38] at h; exact h
        obtain ⟨r, rfl, r0, r1⟩ := g_38
        clear HX HD x_7 x_6
        obtain ⟨k, rfl⟩ := Int.eq_ofNat_of_zero_le r0
        have hk3 : k < 5 := by omega
        have hk3i : (k : Int) < 5 := by omega
        refine did_value (.pointer (some ⟨b, k, none⟩)) wv (by go_simp <;> rfl) ⟨⟨HJ.out.1, HJ.out.2.mono (by omega)⟩, But.refl _ _, gof_mk (fun v w' => ∃ b k : Nat, v = .pointer (some ⟨b, k, none⟩) ∧ k < 5 ∧ b ≠ w.heap.size ∧ Blk w' b 3 minesL) rfl <|  ⟨b, k, rfl, hk3, hb, hk⟩⟩
      refine allsteps_cons 20 21 rfl (fun av wv cv HJ hcv HX HD => ?_) ?_
      · skip
        obtain ⟨v_39, e_39⟩ : ∃ v, evOf av (.tmp 39) = v := ⟨_, rfl⟩
        have g_39 : ((fun v w' => ∃ b k : Nat, v = .pointer (some ⟨b, k, none⟩) ∧ k < 5 ∧ b ≠ w.heap.size ∧ Blk w' b 3 minesL) : Value → World → Prop) v_39 wv := by have h := HD.out 19 39 rfl; rw [e_39] at h; exact h
        obtain ⟨b, k, rfl, hk3, hb, hk⟩ := g_39
        clear HX HD x_7 x_6
        obtain ⟨y, hy, hy1, hy2⟩ := minesL_at k hk3
        have hc := (hk.cell k).trans hy
        refine did_value (.int .i64 y) wv (by go_simp <;> rfl) ⟨⟨HJ.out.1, HJ.out.2.mono (by omega)⟩, But.refl _ _, gof_mk (fun v _ => ∃ z : Int, v = .int .i64 z ∧ -1 ≤ z ∧ z ≤ 4294967296) rfl <|  ⟨y, rfl, hy1, hy2⟩⟩
      refine allsteps_cons 21 22 rfl (fun av wv cv HJ hcv HX HD => ?_) ?_
      · skip
        obtain ⟨v_20, e_20⟩ : ∃ v, evOf av (.tmp 20) = v := ⟨_, rfl⟩
        have g_20 : ((fun v _ => v = .string nm) : Value → World → Prop) v_20 wv := by have h := HD.out 0 20 rfl; rw [e_20] at h; exact h
        have g_20 : v_20 = .string nm := g_20
        subst g_20
        clear HX HD x_7 x_6
        refine did_value ?_ wv ?_ ⟨(fun h => ⟨h.1, h.2.mono (by omega)⟩) HJ.out, But.refl _ wv, ?_⟩
        rotate_left
        · go_simp
          rfl
        · exact rfl
      refine allsteps_cons 22 23 rfl (fun av wv cv HJ hcv HX HD => ?_) ?_
      · skip
        obtain ⟨v_30, e_30⟩ : ∃ v, evOf av (.tmp 30) = v := ⟨_, rfl⟩
        have g_30 : ((fun v _ => ∃ x : ByteArray, v = .string x ∧ x.size ≤ 101) : Value → World → Prop) v_30 wv := by have h := HD.out 10 30 rfl; rw [e_30] at h; exact h
        obtain ⟨x10, rfl, hx10⟩ := g_30
        clear HX HD x_7 x_6
        refine did_value ?_ wv ?_ ⟨(fun h => ⟨h.1, h.2.mono (by omega)⟩) HJ.out, But.refl _ wv, ?_⟩
        rotate_left
        · go_simp
          rfl
        · exact (gof_mk (fun v _ => ∃ x : ByteArray, v = .string x ∧ x.size ≤ 101) rfl <|  ⟨_, rfl, hx10⟩)
      refine allsteps_cons 23 24 rfl (fun av wv cv HJ hcv HX HD => ?_) ?_
      · skip
        obtain ⟨v_35, e_35⟩ : ∃ v, evOf av (.tmp 35) = v := ⟨_, rfl⟩
        have g_35 : ((fun v _ => ∃ z : Int, v = .int .i64 z ∧ -1 ≤ z ∧ z ≤ 65536) : Value → World → Prop) v_35 wv := by have h := HD.out 15 35 rfl; rw [e_35] at h; exact h
        obtain ⟨z, rfl, hz0, hz1⟩ := g_35
        clear HX HD x_7 x_6
        refine did_value ?_ wv ?_ ⟨(fun h => ⟨h.1, h.2.mono (by omega)⟩) HJ.out, But.refl _ wv, ?_⟩
        rotate_left
        · go_simp
          rfl
        · exact (gof_mk (fun v _ => ∃ z : Int, v = .int .i64 z ∧ -1 ≤ z ∧ z ≤ 65536) rfl <|  ⟨_, rfl, hz0, hz1⟩)
      refine allsteps_cons 24 25 rfl (fun av wv cv HJ hcv HX HD => ?_) ?_
      · skip
        obtain ⟨v_40, e_40⟩ : ∃ v, evOf av (.tmp 40) = v := ⟨_, rfl⟩
        have g_40 : ((fun v _ => ∃ z : Int, v = .int .i64 z ∧ -1 ≤ z ∧ z ≤ 4294967296) : Value → World → Prop) v_40 wv := by have h := HD.out 20 40 rfl; rw [e_40] at h; exact h
        obtain ⟨z, rfl, hz0, hz1⟩ := g_40
        clear HX HD x_7 x_6
        refine did_value ?_ wv ?_ ⟨(fun h => ⟨h.1, h.2.mono (by omega)⟩) HJ.out, But.refl _ wv, ?_⟩
        rotate_left
        · go_simp
          rfl
        · exact (gof_mk (fun v _ => ∃ z : Int, v = .int .i64 z ∧ -1 ≤ z ∧ z ≤ 4294967296) rfl <|  ⟨_, rfl, hz0, hz1⟩)
      exact allsteps_nil _
    have hf := HF.out
    have g_20 : ((fun v _ => v = .string nm) : Value → World → Prop) (fv 20) wz := hf 0 20 rfl
    have g_21 : ((fun v _ => v = .pointer (some ⟨w.heap.size, 0, none⟩)) : Value → World → Prop) (fv 21) wz := hf 1 21 rfl
    have g_22 : ((fun v _ => ∃ r : Int, v = .int .i64 r ∧ 0 ≤ r ∧ r ≤ 1) : Value → World → Prop) (fv 22) wz := hf 2 22 rfl
    have g_23 : ((fun v _ => ∃ r : Int, v = .int .i64 r ∧ 0 ≤ r ∧ r ≤ 101) : Value → World → Prop) (fv 23) wz := hf 3 23 rfl
    have g_24 : ((fun v w' => ∃ m b : Nat, v = .slice (some ⟨b, 0, none⟩) m m ∧ m ≤ 101 ∧ b ≠ w.heap.size ∧ Blk w' b 5 (List.replicate m (Value.int .u8 0))) : Value → World → Prop) (fv 24) wz := hf 4 24 rfl
    have g_25 : ((fun v _ => ∃ x : ByteArray, v = .string x ∧ x.size ≤ 101) : Value → World → Prop) (fv 25) wz := hf 5 25 rfl
    have g_26 : ((fun v w' => ∃ (b : Nat) (x : ByteArray), v = .slice (some ⟨b, 0, none⟩) 3 3 ∧ x.size ≤ 101 ∧ b ≠ w.heap.size ∧ Blk w' b 9 (keysL x)) : Value → World → Prop) (fv 26) wz := hf 6 26 rfl
    have g_27 : ((fun v _ => v = .pointer (some ⟨w.heap.size, 0, none⟩)) : Value → World → Prop) (fv 27) wz := hf 7 27 rfl
    have g_28 : ((fun v _ => ∃ r : Int, v = .int .i64 r ∧ 0 ≤ r ∧ r ≤ 2) : Value → World → Prop) (fv 28) wz := hf 8 28 rfl
    have g_29 : ((fun v w' => ∃ (b k : Nat) (x : ByteArray), v = .pointer (some ⟨b, k, none⟩) ∧ k < 3 ∧ x.size ≤ 101 ∧ b ≠ w.heap.size ∧ Blk w' b 9 (keysL x)) : Value → World → Prop) (fv 29) wz := hf 9 29 rfl
    have g_30 : ((fun v _ => ∃ x : ByteArray, v = .string x ∧ x.size ≤ 101) : Value → World → Prop) (fv 30) wz := hf 10 30 rfl
    have g_31 : ((fun v w' => ∃ b : Nat, v = .slice (some ⟨b, 0, none⟩) 5 5 ∧ b ≠ w.heap.size ∧ Blk w' b 3 flagsL) : Value → World → Prop) (fv 31) wz := hf 11 31 rfl
    have g_32 : ((fun v _ => v = .pointer (some ⟨w.heap.size, 0, none⟩)) : Value → World → Prop) (fv 32) wz := hf 12 32 rfl
    have g_33 : ((fun v _ => ∃ r : Int, v = .int .i64 r ∧ 0 ≤ r ∧ r ≤ 4) : Value → World → Prop) (fv 33) wz := hf 13 33 rfl
    have g_34 : ((fun v w' => ∃ b k : Nat, v = .pointer (some ⟨b, k, none⟩) ∧ k < 5 ∧ b ≠ w.heap.size ∧ Blk w' b 3 flagsL) : Value → World → Prop) (fv 34) wz := hf 14 34 rfl
    have g_35 : ((fun v _ => ∃ z : Int, v = .int .i64 z ∧ -1 ≤ z ∧ z ≤ 65536) : Value → World → Prop) (fv 35) wz := hf 15 35 rfl
    have g_36 : ((fun v w' => ∃ b : Nat, v = .slice (some ⟨b, 0, none⟩) 5 5 ∧ b ≠ w.heap.size ∧ Blk w' b 3 minesL) : Value → World → Prop) (fv 36) wz := hf 16 36 rfl
    have g_37 : ((fun v _ => v = .pointer (some ⟨w.heap.size, 0, none⟩)) : Value → World → Prop) (fv 37) wz := hf 17 37 rfl
    have g_38 : ((fun v _ => ∃ r : Int, v = .int .i64 r ∧ 0 ≤ r ∧ r ≤ 4) : Value → World → Prop) (fv 38) wz := hf 18 38 rfl
    have g_39 : ((fun v w' => ∃ b k : Nat, v = .pointer (some ⟨b, k, none⟩) ∧ k < 5 ∧ b ≠ w.heap.size ∧ Blk w' b 3 minesL) : Value → World → Prop) (fv 39) wz := hf 19 39 rfl
    have g_40 : ((fun v _ => ∃ z : Int, v = .int .i64 z ∧ -1 ≤ z ∧ z ≤ 4294967296) : Value → World → Prop) (fv 40) wz := hf 20 40 rfl
    have g_2 : ((fun v _ => v = .string nm) : Value → World → Prop) (fv 2) wz := hf 21 2 rfl
    have g_3 : ((fun v _ => ∃ x : ByteArray, v = .string x ∧ x.size ≤ 101) : Value → World → Prop) (fv 3) wz := hf 22 3 rfl
    have g_4 : ((fun v _ => ∃ z : Int, v = .int .i64 z ∧ -1 ≤ z ∧ z ≤ 65536) : Value → World → Prop) (fv 4) wz := hf 23 4 rfl
    have g_5 : ((fun v _ => ∃ z : Int, v = .int .i64 z ∧ -1 ≤ z ∧ z ≤ 4294967296) : Value → World → Prop) (fv 5) wz := hf 24 5 rfl
    clear hf HF
    simp only [List.map_cons, List.map_nil, putAll, Act.put, List.setIfInBounds_toArray, List.set_cons_succ, List.set_cons_zero]
    have HZ := HJ.out.1
    have g_2 : fv 2 = .string nm := g_2
    obtain ⟨key, g_3, hkey⟩ := g_3
    obtain ⟨flags, g_4, hf⟩ := g_4
    obtain ⟨mine, g_5, hmi⟩ := g_5
    rw [g_2, g_3, g_4, g_5]
    have HF := Aside.mk hf
    have HMI := Aside.mk hmi
    have HK := Aside.mk hkey
    have HZ := Aside.mk HZ
    clear g_2 g_3 g_4 g_5 g_20 g_21 g_22 g_23 g_24 g_25 g_26 g_27 g_28 g_29 g_30 g_31 g_32 g_33 g_34 g_35 g_36 g_37 g_38 g_39 g_40 hf hmi hkey
    go_wp2_with fail
    exact bodyPost_ret (res_four rfl _ _ _) rfl ⟨nm, key, flags, mine, rfl, by first | exact hnm | exact HM4.out, HK.out, HF.out, HMI.out, curBelow HB3.out HZ.out⟩
end Go.Proofs.YtlopbheahedofaaDoor.Fn
end
section
set_option linter.unusedVariables false
namespace Go.Proofs.YtlopbheahedofaaDoor.Fn
open Go Go.RowKit Go.Proofs.YtlopbheahedofaaDoor.Lib Go.Proofs.YtlopbheahedofaaDoor.Plan
attribute [local go_sem] look_tmp look_const look_func look_global lookT_nil lookT_hit lookT_miss

/-- Texts in a row: from cell o of block g on. -/
def QAt (w : World) (base g o cap : Nat) (l : List ByteArray) : Prop :=
  base ≤ g ∧ ∃ cs : List Value, Blk w g 9 cs ∧ l.length ≤ cap ∧ o + cap ≤ cs.length ∧ ∀ (j : Nat) (h : j < l.length), cs[o + j]? = some (.string l[j])
theorem QAt.keep {w w2 : World} {base g o cap : Nat} {l : List ByteArray} (h : QAt w base g o cap l) (hb : w2.heap[g]? = w.heap[g]?) : QAt w2 base g o cap l := by
  obtain ⟨h0, cs, h1, h2, h3, h4⟩ := h
  exact ⟨h0, cs, hb.trans h1, h2, h3, h4⟩
theorem QAt.lt {w : World} {base g o cap : Nat} {l : List ByteArray} (h : QAt w base g o cap l) : g < w.heap.size := by
  obtain ⟨h0, cs, h1, -⟩ := h
  exact h1.lt
theorem QAt.cell {w : World} {base g o cap : Nat} {x : ByteArray} {l : List ByteArray} (h : QAt w base g o cap (x :: l)) : w.cell? ⟨g, o, none⟩ = some (.string x) := by
  obtain ⟨h0, cs, h1, -, -, h4⟩ := h
  have := h4 0 (by simp)
  exact (h1.cell o).trans (by simpa using this)
theorem QAt.tail {w : World} {base g o cap : Nat} {x : ByteArray} {l : List ByteArray} (h : QAt w base g o cap (x :: l)) : QAt w base g (o + 1) (cap - 1) l := by
  obtain ⟨h0, cs, h1, h2, h3, h4⟩ := h
  simp only [List.length_cons] at h2
  refine ⟨h0, cs, h1, by omega, by omega, fun j hj => ?_⟩
  have := h4 (j + 1) (by simp; omega)
  rw [show o + 1 + j = o + (j + 1) by omega]
  simpa using this
theorem QAt.first (w : World) (T : TypeId) (base : Nat) (hb : base ≤ w.heap.size) (l : List ByteArray) : QAt (w.alloc (.cells (l.map Value.string).toArray 9)) base w.heap.size 0 l.length l :=
  ⟨hb, _, Blk.new w 9 _, Nat.le_refl _, by simp, fun j hj => by simp [hj]⟩
theorem app_room {P : Program} (w : World) (t e : TypeId) (i : TypeInfo) (ht : P.underlying t = some (.slice e)) (hi : P.info? e = some i) (hs : i.size = 1)
    (g o n cap : Nat) (cur : Array Value) (hg : w.heap[g]? = some (.cells cur e (0, 0))) (A : Option Addr) (m c : Nat) (news : List Value) (hl : news.length = m)
    (hnews : m = 0 ∨ ∃ a, A = some a ∧ ∀ j u, news[j]? = some u → w.cell? (a.add j) = some u) (h1 : ∀ u ∈ news, u.oneCell' = true) (hroom : n + m ≤ cap) (hfit : o + n + m ≤ cur.size) :
    (Builtin.append_ #[t, t] t #[.slice (some ⟨g, o, none⟩) n cap, .slice A m c]).run P w = .ok (.slice (some ⟨g, o, none⟩) (n + m) cap) (w.setRow g (cur.toList.take (o + n) ++ news ++ cur.toList.drop (o + n + m)).toArray) := by
  have hf : (Builtin.firstCells i.size m (.slice A m c)).run P w = .ok news.toArray w := by
    rcases hnews with rfl | ⟨a, rfl, hn⟩
    · have : news = [] := List.eq_nil_of_length_eq_zero hl
      subst this
      cases A with
      | none => exact run_firstCells_none w _ _ _ _
      | some a => exact run_firstCells_some w i.size 0 a 0 c [] (by simp) (fun j v h => by simp at h)
    · exact run_firstCells_some w i.size m a m c news (by rw [hs]; omega) hn
  have hst := run_storeCells_at P g (o + n) e news 0 cur w hg (by omega) h1
  simp only [Nat.add_zero, hl] at hst
  have hadd : (⟨g, o, none⟩ : Addr).add n = ⟨g, o + n, none⟩ := by unfold Addr.add; split <;> simp_all
  rw [hs] at hf
  simp [Builtin.append_, run_underlying ht, sizeOf, typeInfo, hi, Builtin.lenOf, hroom, hf, hadd, hst, hs]
/-- append of several texts. -/
theorem QAt.app {w : World} {base g o cap : Nat} {l : List ByteArray} (h : QAt w base g o cap l) (hbase : base ≤ w.heap.size) (l2 : List ByteArray) (S : Nat → Prop) (v2 : Value) (h2 : Rec.str.sl.rd True w S l2 [v2]) (hsm : l.length + l2.length ≤ 1000) :
    ∃ g2 o2 cap2 w2, (Builtin.append_ #[30, 30] 30 #[.slice (some ⟨g, o, none⟩) l.length cap, v2]).run Tryd.prog w = .ok (.slice (some ⟨g2, o2, none⟩) (l ++ l2).length cap2) w2 ∧
      QAt w2 base g2 o2 cap2 (l ++ l2) ∧ (∀ b, b < w.heap.size → b ≠ g → w2.heap[b]? = w.heap[b]?) ∧ Below base w w2 ∧ (g2 = g ∨ w.heap.size ≤ g2) := by
  obtain ⟨i0, hi0, iz0, iz1, iz2⟩ := info_parts infoStr
  obtain ⟨A, c, e2, hc, hsl⟩ := h2
  injection e2 with e2 _
  subst e2
  obtain ⟨h0, cs, k1, k2, k3, k4⟩ := h
  have hnews : l2.length = 0 ∨ ∃ a, A = some a ∧ ∀ j u, (l2.map Value.string)[j]? = some u → w.cell? (a.add j) = some u := by
    rcases hsl with rfl | ⟨b, o', rfl, hSb, f, hf1, hf2, hf3⟩
    · exact Or.inl rfl
    · right
      refine ⟨_, rfl, fun j u hu => ?_⟩
      rw [List.getElem?_map] at hu
      by_cases hj : j < l2.length
      · rw [List.getElem?_eq_getElem hj] at hu
        injection hu with hu
        subst hu
        obtain ⟨cv, rfl, ht⟩ := hf3 j hj
        have h3 := ht 0 (show 0 < 1 by omega)
        have hadd : (⟨b, o', none⟩ : Addr).add j = ⟨b, o' + j, none⟩ := by unfold Addr.add; split <;> simp_all
        rw [hadd]
        have e0 : o' + j * Rec.str.k + 0 = o' + j := by show o' + j * 1 + 0 = o' + j; omega
        rw [e0] at h3
        exact h3
      · rw [List.getElem?_eq_none (by omega)] at hu
        cases hu
  have hone : ∀ u ∈ l2.map Value.string, u.oneCell' = true := by
    intro u hu
    obtain ⟨x, -, rfl⟩ := List.mem_map.1 hu
    rfl
  by_cases hroom : l.length + l2.length ≤ cap
  · have hr := app_room (P := Tryd.prog) w 30 9 i0 Tryd.underlying30 hi0 iz1 g o l.length cap cs.toArray k1 A l2.length c (l2.map Value.string) (by simp) hnews hone hroom (by simp; omega)
    refine ⟨g, o, cap, _, by rw [List.length_append]; exact hr, ⟨h0, _, setRow_heap w g _ _ 9 _ k1, ?_, ?_, ?_⟩, ?_, ?_, Or.inl rfl⟩
    · simpa using hroom
    · simp; omega
    · intro j hj
      have hj : j < l.length + l2.length := by simpa using hj
      show (cs.take (o + l.length) ++ l2.map Value.string ++ cs.drop (o + l.length + l2.length))[o + j]? = _
      by_cases hj1 : j < l.length
      · rw [List.append_assoc, List.getElem?_append_left (by rw [List.length_take]; omega), List.getElem?_take_of_lt (by omega), k4 j hj1, List.getElem_append_left hj1]
      · rw [List.append_assoc, List.getElem?_append_right (by rw [List.length_take]; omega), List.length_take, List.getElem?_append_left (by rw [List.length_map]; omega), List.getElem?_map, List.getElem?_eq_getElem (by omega), List.getElem_append_right (by omega)]
        simp only [Option.map_some, Option.some.injEq, Value.string.injEq]
        congr 1
        omega
    · exact fun b hb hne => setRow_other w g b _ (fun e => hne e)
    · exact ⟨rfl, rfl, rfl, by simp, fun b hb => setRow_other w g b _ (fun e => by omega)⟩
  · have hm : l2.length ≠ 0 := by omega
    obtain ⟨a, rfl, hn⟩ := hnews.resolve_left hm
    have holds : ∀ j v, (l.map Value.string)[j]? = some v → w.cell? ((⟨g, o, none⟩ : Addr).add j) = some v := by
      intro j v hv
      rw [List.getElem?_map] at hv
      by_cases hj : j < l.length
      · rw [List.getElem?_eq_getElem hj] at hv
        injection hv with hv
        subst hv
        have hadd : (⟨g, o, none⟩ : Addr).add j = ⟨g, o + j, none⟩ := by unfold Addr.add; split <;> simp_all
        rw [hadd]
        exact (k1.cell _).trans (k4 j hj)
      · rw [List.getElem?_eq_none (by omega)] at hv
        cases hv
    have hr := run_append_grow (P := Tryd.prog) w 30 30 9 i0 _ Tryd.underlying30 hi0 iz0 ⟨g, o, none⟩ l.length cap (l.map Value.string) (by rw [iz1]; simp) holds a l2.length c (l2.map Value.string) (by rw [iz1]; simp) hn (by omega) (by omega)
      (growslice_fits (by omega) (by rw [iz2]; omega))
    have hge := grownCap_ge w (l.length + l2.length) cap 9
    obtain ⟨X, hX⟩ : ∃ X, X = (l.map Value.string).toArray ++ (l2.map Value.string).toArray ++ Builtin.zeroCells (Value.string ⟨#[]⟩).cells (grownCap w (l.length + l2.length) cap 9 - (l.length + l2.length)) := ⟨_, rfl⟩
    rw [← hX] at hr
    have hb := Blk.made w.drew 9 X.toList (g := w.heap.size) rfl
    rw [Array.toArray_toList] at hb
    have hXs : X.toList.length = grownCap w (l.length + l2.length) cap 9 := by
      rw [Array.length_toList, hX]
      simp only [Array.size_append, List.size_toArray, List.length_map, size_zeroCells]
      show l.length + l2.length + (_ - _) * 1 = _
      omega
    refine ⟨w.heap.size, 0, _, _, by rw [List.length_append]; exact hr, ⟨hbase, _, hb, by rw [List.length_append]; exact hge, by rw [hXs]; omega, ?_⟩, ?_, ?_, Or.inr (Nat.le_refl _)⟩
    · intro j hj
      have hj : j < l.length + l2.length := by simpa using hj
      rw [Nat.zero_add, hX, Array.toList_append, Array.toList_append]
      show (l.map Value.string ++ l2.map Value.string ++ _)[j]? = _
      by_cases hj1 : j < l.length
      · rw [List.append_assoc, List.getElem?_append_left (by rw [List.length_map]; omega), List.getElem?_map, List.getElem?_eq_getElem hj1, List.getElem_append_left hj1]
        rfl
      · rw [List.append_assoc, List.getElem?_append_right (by rw [List.length_map]; omega), List.length_map, List.getElem?_append_left (by rw [List.length_map]; omega), List.getElem?_map, List.getElem?_eq_getElem (by omega), List.getElem_append_right (by omega)]
        rfl
    · intro b hb _
      exact heap_alloc_old w.drew _ hb
    · exact ((Below.refl base w).drew).alloc hbase _
end Go.Proofs.YtlopbheahedofaaDoor.Fn
end
section
set_option linter.unusedVariables false
namespace Go.Proofs.YtlopbheahedofaaDoor.Fn
open Go Go.RowKit Go.Proofs.YtlopbheahedofaaDoor.Lib Go.Proofs.YtlopbheahedofaaDoor.Plan

theorem byte_back (x : Int) (h : 0 ≤ x ∧ x < 256) : ((UInt8.ofNat x.toNat).toNat : Int) = x := by
  rw [UInt8.toNat_ofNat']
  omega
theorem numB_bes (s : Nat) (n : Int) (h0 : 0 ≤ n) (h1 : n < 256 ^ s) : numB (bes s n) = n := by
  have key : ∀ (l : List Int) (a : Int), (∀ x ∈ l, 0 ≤ x ∧ x < 256) → (l.map fun n => UInt8.ofNat n.toNat).foldl (fun n c => n * 256 + (c.toNat : Int)) a = l.foldl (fun n c => n * 256 + c) a := by
    intro l
    induction l with
    | nil => intro a _; rfl
    | cons x l ih =>
      intro a h
      rw [List.map_cons, List.foldl_cons, List.foldl_cons, byte_back x (h x List.mem_cons_self)]
      exact ih _ (fun y hy => h y (List.mem_cons_of_mem _ hy))
  unfold numB numOf bes
  rw [strOfNums_data, key _ _ (be_mem s n), be_fold s n h0]
  exact Int.emod_eq_of_lt h0 h1
theorem cut_at {X B : ByteArray} {i j : Nat} (A C : List UInt8) (h : X.data.toList = A ++ (B.data.toList ++ C)) (hi : i = A.length) (hj : j = A.length + B.size) : X.extract i j = B := by
  refine hs_ext ?_
  rw [ext_toList, h, hi, hj, List.drop_left]
  rw [show A.length + B.size - A.length = B.data.toList.length by rw [Array.length_toList]; show A.length + B.data.size - A.length = B.data.size; omega]
  exact List.take_left
theorem head_of {X : ByteArray} {c : UInt8} {l : List UInt8} (h : X.data.toList = c :: l) : headIs X c = true := by
  obtain ⟨⟨x⟩⟩ := X
  simp only at h
  subst h
  have h0 : 0 < (⟨⟨c :: l⟩⟩ : ByteArray).size := by show 0 < l.length + 1; omega
  unfold headIs
  rw [decide_eq_true h0, getElem!_pos _ 0 h0, Bool.true_and]
  exact decide_eq_true rfl
theorem and_nat (a b : Nat) (ha : a ≤ 65535) (hb : b ≤ 65535) : bits .and .i64 (a : Int) (b : Int) = ((a &&& b : Nat) : Int) := by
  have hx : a &&& b ≤ 65535 := Nat.le_trans Nat.and_le_left ha
  show IntKind.i64.wrap ((BitVec.ofInt 64 (a : Int) &&& BitVec.ofInt 64 (b : Int)).toNat : Int) = _
  rw [BitVec.toNat_and, ofInt_u64 a (by omega), ofInt_u64 b (by omega), IntKind.wrap_i64]
  omega
theorem and_facts {x y : Int} (hx0 : 0 ≤ x) (hx1 : x ≤ 65535) (hy0 : 0 ≤ y) (hy1 : y ≤ 65535) :
    0 ≤ bits .and .i64 x y ∧ bits .and .i64 x y ≤ 65535 ∧ bits .and .i64 (bits .and .i64 x y) x = bits .and .i64 x y ∧ bits .and .i64 x y = bits .and .i64 y x := by
  obtain ⟨a, rfl⟩ := Int.eq_ofNat_of_zero_le hx0
  obtain ⟨b, rfl⟩ := Int.eq_ofNat_of_zero_le hy0
  have ha : a ≤ 65535 := by omega
  have hb : b ≤ 65535 := by omega
  have hx : a &&& b ≤ a := Nat.and_le_left
  rw [and_nat a b ha hb, and_nat b a hb ha, and_nat (a &&& b) a (by omega) ha]
  refine ⟨by omega, by omega, ?_, ?_⟩
  · rw [Nat.and_comm (a &&& b) a, ← Nat.and_assoc, Nat.and_self]
  · rw [Nat.and_comm]
theorem hst_of {st : Int} {N K : ByteArray} {f m : Int} {ca pe : ByteArray} {bo : Int} (d : ByteArray) (hb : handB st N K f m ca pe bo = true) :
    hstR (st, N, K, f, m, ca, pe, bo) d = ((hearsR st N K f m ca pe bo d).1, (hearsR st N K f m ca pe bo d).2, 0) := by
  unfold hstR handR handC
  simp only [hb, if_true]
def PEER : ByteArray := ⟨#[112, 101, 101, 114]⟩
def EE : ByteArray := ⟨#[]⟩
theorem peer_name : nameB PEER = true := by decide
/-- What is known of the two. -/
structure Pair (N K C : ByteArray) (f m n : Int) : Prop where
  name : nameB N = true
  ne : N ≠ PEER
  key : K.size ≤ 100
  cook : C.size ≤ 100
  f0 : 0 ≤ f
  f1 : f ≤ 65535
  m0 : 0 ≤ m
  m1 : m ≤ 4294967295
  n0 : 0 ≤ n
  n1 : n ≤ 4294967295
variable {N K C : ByteArray} {f m n : Int}
theorem name_size {s : ByteArray} (h : nameB s = true) : 1 ≤ s.size ∧ s.size ≤ 30 := by
  unfold nameB at h
  simp only [Bool.and_eq_true, decide_eq_true_eq] at h
  exact h.1.1
theorem list_ne {a b : ByteArray} (h : a ≠ b) : (a.toList == b.toList) = false := by
  simp only [beq_eq_false_iff_ne, ne_eq]
  exact fun e => h (ext_list e)
theorem not_empty {s : ByteArray} (h : 1 ≤ s.size) : s ≠ EE := fun e => by rw [e] at h; exact absurd h (by decide)
def handA (st : Int) (N K : ByteArray) (f m : Int) (pe : ByteArray) (bo : Int) : AHand := (st, N, K, f, m, EE, pe, bo)
theorem hand_open (st : Int) (N K : ByteArray) (f m : Int) (hN : nameB N = true) (hK : K.size ≤ 100) (h0 : 0 ≤ f) (h1 : f ≤ 65535) (h2 : 0 ≤ m) (h3 : m ≤ 4294967295) (hs0 : 0 ≤ st) (hs1 : st ≤ 2) : handB st N K f m EE EE 0 = true := by
  have he : EE.size = 0 := rfl
  unfold handB baseB
  rw [if_pos he, hN, decide_eq_true hK, decide_eq_true h0, decide_eq_true h1, decide_eq_true h2, decide_eq_true h3, decide_eq_true hs0, decide_eq_true (show st ≤ 6 by omega), decide_eq_true he, decide_eq_true hs1]
  rfl
theorem hand_met (st : Int) (N K : ByteArray) (f m : Int) (pe : ByteArray) (bo : Int) (hN : nameB N = true) (hK : K.size ≤ 100) (h0 : 0 ≤ f) (h1 : f ≤ 65535) (h2 : 0 ≤ m) (h3 : m ≤ 4294967295) (hs0 : 3 ≤ st) (hs1 : st ≤ 6)
    (hp : nameB pe = true) (b0 : 0 ≤ bo) (b1 : bo ≤ 65535) (b2 : bits .and .i64 bo f = bo) : handB st N K f m EE pe bo = true := by
  have hs := (name_size hp).1
  unfold handB baseB
  have he : EE.size = 0 := rfl
  rw [if_neg (by omega), hN, decide_eq_true hK, decide_eq_true h0, decide_eq_true h1, decide_eq_true h2, decide_eq_true h3, decide_eq_true hs0, decide_eq_true hs1, decide_eq_true he, hp, decide_eq_true b0, decide_eq_true b1, decide_eq_true b2, decide_eq_true (show 0 ≤ st by omega)]
  rfl
def F0 (N : ByteArray) (f : Int) : ByteArray := (⟨#[78]⟩ ++ bes 2 f) ++ N
def T2 (n : Int) : ByteArray := ((⟨#[67]⟩ ++ bes 2 37) ++ bes 4 n) ++ PEER
def T3 (K : ByteArray) (m n : Int) : ByteArray := (⟨#[114]⟩ ++ bes 4 m) ++ bes 4 (digV K n)
def T4 (C : ByteArray) (m : Int) : ByteArray := ⟨#[97]⟩ ++ bes 4 (digV C m)
theorem lenB (s : Nat) (n : Int) : (bes s n).data.size = s := bes_size s n
theorem tr1 (h : Pair N K C f m n) : hstR (handA 0 PEER C 37 n EE 0) (F0 N f) = (handA 3 PEER C 37 n N (bits .and .i64 37 f), [sokT, T2 n], 0) := by
  have hs := name_size h.name
  unfold handA
  rw [hst_of _ (hand_open 0 PEER C 37 n peer_name h.cook (by omega) (by omega) h.n0 h.n1 (by omega) (by omega))]
  have hl : (F0 N f).data.toList = 78 :: ((bes 2 f).data.toList ++ N.data.toList) := by unfold F0; rw [app_toList, app_toList]; rfl
  have hsz : (F0 N f).size = 3 + N.size := by unfold F0; rw [ByteArray.size_append, ByteArray.size_append, bes_size]; rfl
  have e1 : (F0 N f).extract 1 3 = bes 2 f := cut_at [78] N.data.toList (by rw [hl]; rfl) rfl (by rw [bes_size]; rfl)
  have e2 : (F0 N f).extract 3 (F0 N f).size = N := cut_at (78 :: (bes 2 f).data.toList) [] (by rw [hl]; simp) (by rw [List.length_cons, bes_length]) (by rw [hsz, List.length_cons, bes_length])
  have hh : hello (F0 N f) 78 3 = true := by unfold hello; rw [head_of hl, e2, h.name, hsz]; simp; omega
  have q1 : eqS N PEER = false := list_ne h.ne
  have q2 : eqS N EE = false := list_ne (not_empty hs.1)
  have e3 : numB (bes 2 f) = f := numB_bes 2 f h.f0 (by have := h.f1; show f < 65536; omega)
  unfold hearsR
  simp only [if_true, hh, e1, e2, q1, q2, e3, Bool.false_and]
  rfl
theorem tr2 (h : Pair N K C f m n) : hstR (handA 1 N K f m EE 0) sokT = (handA 2 N K f m EE 0, [], 0) := by
  unfold handA
  rw [hst_of _ (hand_open 1 N K f m h.name h.key h.f0 h.f1 h.m0 h.m1 (by omega) (by omega))]
  have q : eqS sokT sokT = true := by unfold eqS; exact beq_self_eq_true _
  unfold hearsR
  simp only [q, Bool.true_or, if_true]
  rfl
theorem tr3 (h : Pair N K C f m n) : hstR (handA 2 N K f m EE 0) (T2 n) = (handA 4 N K f m PEER (bits .and .i64 f 37), [T3 K m n], 0) := by
  unfold handA
  rw [hst_of _ (hand_open 2 N K f m h.name h.key h.f0 h.f1 h.m0 h.m1 (by omega) (by omega))]
  have hl : (T2 n).data.toList = 67 :: ((bes 2 37).data.toList ++ ((bes 4 n).data.toList ++ PEER.data.toList)) := by unfold T2; rw [app_toList, app_toList, app_toList]; simp
  have hsz : (T2 n).size = 11 := by unfold T2; rw [ByteArray.size_append, ByteArray.size_append, ByteArray.size_append, bes_size, bes_size]; rfl
  have e1 : (T2 n).extract 1 3 = bes 2 37 := cut_at [67] _ (by rw [hl]; rfl) rfl (by rw [bes_size]; rfl)
  have e2 : (T2 n).extract 3 7 = bes 4 n := cut_at (67 :: (bes 2 37).data.toList) PEER.data.toList (by rw [hl]; simp) (by rw [List.length_cons, bes_length]) (by rw [List.length_cons, bes_length, bes_size])
  have e3 : (T2 n).extract 7 (T2 n).size = PEER := cut_at (67 :: ((bes 2 37).data.toList ++ (bes 4 n).data.toList)) [] (by rw [hl]; simp) (by rw [List.length_cons, List.length_append, bes_length, bes_length]) (by rw [hsz, List.length_cons, List.length_append, bes_length, bes_length]; rfl)
  have hh : hello (T2 n) 67 7 = true := by unfold hello; rw [head_of hl, e3, peer_name, hsz]; rfl
  have q1 : eqS PEER N = false := list_ne (fun e => h.ne e.symm)
  have e4 : numB (bes 2 37) = 37 := numB_bes 2 37 (by omega) (by decide)
  have e5 : numB (bes 4 n) = n := numB_bes 4 n h.n0 (by have := h.n1; show n < 4294967296; omega)
  unfold hearsR
  simp only [hh, e1, e2, e3, q1, e4, e5, Bool.not_false, Bool.and_self, if_true]
  rfl
theorem tr4 (h : Pair N K C f m n) : hstR (handA 3 PEER C 37 n N (bits .and .i64 37 f)) (T3 K m n) = (handA (if digV K n = digV C n then 5 else 6) PEER C 37 n N (bits .and .i64 37 f), (if digV K n = digV C n then [T4 C m] else []), 0) := by
  obtain ⟨a0, a1, a2, -⟩ := and_facts (show (0 : Int) ≤ 37 by omega) (by omega) h.f0 h.f1
  unfold handA
  rw [hst_of _ (hand_met 3 PEER C 37 n N _ peer_name h.cook (by omega) (by omega) h.n0 h.n1 (by omega) (by omega) h.name a0 a1 a2)]
  obtain ⟨d0, d1⟩ := digV_range K n
  have hl : (T3 K m n).data.toList = 114 :: ((bes 4 m).data.toList ++ (bes 4 (digV K n)).data.toList) := by unfold T3; rw [app_toList, app_toList]; rfl
  have hsz : (T3 K m n).size = 9 := by unfold T3; rw [ByteArray.size_append, ByteArray.size_append, bes_size, bes_size]; rfl
  have e1 : (T3 K m n).extract 1 5 = bes 4 m := cut_at [114] _ (by rw [hl]; rfl) rfl (by rw [bes_size]; rfl)
  have e2 : (T3 K m n).extract 5 9 = bes 4 (digV K n) := cut_at (114 :: (bes 4 m).data.toList) [] (by rw [hl]; simp) (by rw [List.length_cons, bes_length]) (by rw [List.length_cons, bes_length, bes_size])
  have e3 : numB (bes 4 m) = m := numB_bes 4 m h.m0 (by have := h.m1; show m < 4294967296; omega)
  have e4 : numB (bes 4 (digV K n)) = digV K n := numB_bes 4 _ d0 (by show _ < (4294967296 : Int); omega)
  unfold hearsR
  simp only [head_of hl, hsz, e1, e2, e3, e4]
  by_cases hd : digV K n = digV C n
  · simp [hd]; rfl
  · simp [hd]
theorem tr5 (h : Pair N K C f m n) : hstR (handA 4 N K f m PEER (bits .and .i64 f 37)) (T4 C m) = (handA (if digV C m = digV K m then 5 else 6) N K f m PEER (bits .and .i64 f 37), [], 0) := by
  obtain ⟨a0, a1, a2, -⟩ := and_facts h.f0 h.f1 (show (0 : Int) ≤ 37 by omega) (by omega)
  unfold handA
  rw [hst_of _ (hand_met 4 N K f m PEER _ h.name h.key h.f0 h.f1 h.m0 h.m1 (by omega) (by omega) peer_name a0 a1 a2)]
  obtain ⟨d0, d1⟩ := digV_range C m
  have hl : (T4 C m).data.toList = 97 :: (bes 4 (digV C m)).data.toList := by unfold T4; rw [app_toList]; rfl
  have hsz : (T4 C m).size = 5 := by unfold T4; rw [ByteArray.size_append, bes_size]; rfl
  have e1 : (T4 C m).extract 1 5 = bes 4 (digV C m) := cut_at [97] [] (by rw [hl]; simp) rfl (by rw [bes_size]; rfl)
  have e4 : numB (bes 4 (digV C m)) = digV C m := numB_bes 4 _ d0 (by show _ < (4294967296 : Int); omega)
  unfold hearsR
  simp only [head_of hl, hsz, e1, e4]
  by_cases hd : digV C m = digV K m
  · simp [hd]
  · simp [hd]
/-- The two ends, and what is on the way to each. -/
structure HS where
  a : AHand
  b : AHand
  qa : List ByteArray
  qb : List ByteArray
noncomputable def HS.step (s : HS) : HS :=
  match s.qb with
  | x :: r => ⟨s.a, (hstR s.b x).1, s.qa ++ (hstR s.b x).2.1, r⟩
  | [] => match s.qa with
    | x :: r => ⟨(hstR s.a x).1, s.b, r, s.qb ++ (hstR s.a x).2.1⟩
    | [] => s
noncomputable def HS.code (s : HS) : Int :=
  match s.qb with
  | x :: _ => (hstR s.b x).2.2
  | [] => match s.qa with
    | x :: _ => (hstR s.a x).2.2
    | [] => 0
noncomputable def hsN (s0 : HS) : Nat → HS
  | 0 => s0
  | i + 1 => (hsN s0 i).step
def Small (s : HS) : Prop := RHand.wt s.a ≤ 1048576 ∧ RHand.wt s.b ≤ 1048576 ∧ (∀ x ∈ s.qa, x.size ≤ 1048576) ∧ (∀ x ∈ s.qb, x.size ≤ 1048576) ∧ s.qa.length ≤ 2 ∧ s.qb.length ≤ 2 ∧ s.code = 0
noncomputable def start (N K C : ByteArray) (f m n : Int) : HS := ⟨handA 1 N K f m EE 0, handA 0 PEER C 37 n EE 0, [], [F0 N f]⟩
noncomputable def endA (N K C : ByteArray) (f m n : Int) : AHand := handA (if digV K n = digV C n then (if digV C m = digV K m then 5 else 6) else 4) N K f m PEER (bits .and .i64 f 37)
noncomputable def endB (N K C : ByteArray) (f m n : Int) : AHand := handA (if digV K n = digV C n then 5 else 6) PEER C 37 n N (bits .and .i64 37 f)
theorem wt_handA (st : Int) (N K : ByteArray) (f m : Int) (pe : ByteArray) (bo : Int) : RHand.wt (handA st N K f m pe bo) = N.size + K.size + pe.size := by
  rw [wt_hand]; show N.size + K.size + 0 + pe.size = _; omega
theorem hands (h : Pair N K C f m n) : (∀ i, Small (hsN (start N K C f m n) i)) ∧ ∀ i, 5 ≤ i → hsN (start N K C f m n) i = ⟨endA N K C f m n, endB N K C f m n, [], []⟩ := by
  have hs := name_size h.name
  have hp : PEER.size = 4 := rfl
  have he : EE.size = 0 := rfl
  have hk := h.key
  have hc := h.cook
  have zF : (F0 N f).size = 3 + N.size := by unfold F0; rw [ByteArray.size_append, ByteArray.size_append, bes_size]; rfl
  have z2 : (T2 n).size = 11 := by unfold T2; rw [ByteArray.size_append, ByteArray.size_append, ByteArray.size_append, bes_size, bes_size]; rfl
  have z3 : (T3 K m n).size = 9 := by unfold T3; rw [ByteArray.size_append, ByteArray.size_append, bes_size, bes_size]; rfl
  have z4 : (T4 C m).size = 5 := by unfold T4; rw [ByteArray.size_append, bes_size]; rfl
  have zs : sokT.size = 3 := rfl
  have s0 : hsN (start N K C f m n) 0 = ⟨handA 1 N K f m EE 0, handA 0 PEER C 37 n EE 0, [], [F0 N f]⟩ := rfl
  have s1 : hsN (start N K C f m n) 1 = ⟨handA 1 N K f m EE 0, handA 3 PEER C 37 n N (bits .and .i64 37 f), [sokT, T2 n], []⟩ := by
    show (hsN _ 0).step = _
    rw [s0]; unfold HS.step; simp only [tr1 h]; rfl
  have s2 : hsN (start N K C f m n) 2 = ⟨handA 2 N K f m EE 0, handA 3 PEER C 37 n N (bits .and .i64 37 f), [T2 n], []⟩ := by
    show (hsN _ 1).step = _
    rw [s1]; unfold HS.step; simp only [tr2 h]; rfl
  have s3 : hsN (start N K C f m n) 3 = ⟨handA 4 N K f m PEER (bits .and .i64 f 37), handA 3 PEER C 37 n N (bits .and .i64 37 f), [], [T3 K m n]⟩ := by
    show (hsN _ 2).step = _
    rw [s2]; unfold HS.step; simp only [tr3 h]; rfl
  have s4 : hsN (start N K C f m n) 4 = ⟨handA 4 N K f m PEER (bits .and .i64 f 37), endB N K C f m n, (if digV K n = digV C n then [T4 C m] else []), []⟩ := by
    show (hsN _ 3).step = _
    rw [s3]; unfold HS.step; simp only [tr4 h]; rfl
  have s5 : hsN (start N K C f m n) 5 = ⟨endA N K C f m n, endB N K C f m n, [], []⟩ := by
    show (hsN _ 4).step = _
    rw [s4]
    by_cases hd : digV K n = digV C n
    · simp only [hd, if_true]; unfold HS.step; simp only [tr5 h]; unfold endA; simp [hd]
    · simp only [hd, if_false]; unfold HS.step endA; simp [hd]
  have s6 : ∀ j, hsN (start N K C f m n) (5 + j) = ⟨endA N K C f m n, endB N K C f m n, [], []⟩ := by
    intro j
    induction j with
    | zero => exact s5
    | succ j ih => show (hsN _ (5 + j)).step = _; rw [ih]; rfl
  refine ⟨fun i => ?_, fun i hi => by obtain ⟨j, rfl⟩ := Nat.exists_eq_add_of_le hi; exact s6 j⟩
  rcases (show i = 0 ∨ i = 1 ∨ i = 2 ∨ i = 3 ∨ i = 4 ∨ ∃ j, i = 5 + j by
    by_cases h5 : 5 ≤ i
    · obtain ⟨j, rfl⟩ := Nat.exists_eq_add_of_le h5; exact Or.inr (Or.inr (Or.inr (Or.inr (Or.inr ⟨j, rfl⟩))))
    · omega) with rfl | rfl | rfl | rfl | rfl | ⟨j, rfl⟩
  · rw [s0]; exact ⟨by rw [wt_handA]; omega, by rw [wt_handA]; omega, by simp, by simp [zF]; omega, by simp, by simp, by unfold HS.code; simp only [tr1 h]⟩
  · rw [s1]; exact ⟨by rw [wt_handA]; omega, by rw [wt_handA]; omega, by simp [zs, z2], by simp, by simp, by simp, by unfold HS.code; simp only [tr2 h]⟩
  · rw [s2]; exact ⟨by rw [wt_handA]; omega, by rw [wt_handA]; omega, by simp [z2], by simp, by simp, by simp, by unfold HS.code; simp only [tr3 h]⟩
  · rw [s3]; exact ⟨by rw [wt_handA]; omega, by rw [wt_handA]; omega, by simp, by simp [z3], by simp, by simp, by unfold HS.code; simp only [tr4 h]⟩
  · rw [s4]
    refine ⟨by rw [wt_handA]; omega, by unfold endB; rw [wt_handA]; omega, ?_, by simp, ?_, by simp, ?_⟩
    · split <;> simp [z4]
    · split <;> simp
    · unfold HS.code
      by_cases hd : digV K n = digV C n
      · simp only [hd, if_true, tr5 h]
      · simp only [hd, if_false]
  · rw [s6 j]; exact ⟨by unfold endA; rw [wt_handA]; omega, by unfold endB; rw [wt_handA]; omega, by simp, by simp, by simp, by simp, rfl⟩
end Go.Proofs.YtlopbheahedofaaDoor.Fn
end

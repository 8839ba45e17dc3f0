/- Walks of Signal, the program's and the reference's. Conditions: those of each theorem. -/
import Derived.Test.YtdcmoilajplfdaaTab1
import Derived.Test.YtdcmoilajplfdaaCopy
import Derived.Test.YtdcmoilajplfdaaCopy2
import Derived.Test.YtdcmoilajplfdaaEnv
set_option linter.unusedVariables false
namespace Go.Proofs.Ytdcmoilajplfdaa.Fn
open Go.RowKit Go.Proofs.Ytdcmoilajplfdaa.Lib Go.Proofs.Ytdcmoilajplfdaa.Plan
attribute [local go_sem] look_tmp look_const look_func look_global lookT_nil lookT_hit lookT_miss

def killT : T := atomT ⟨#[107, 105, 108, 108]⟩
def killedT : T := atomT ⟨#[107, 105, 108, 108, 101, 100]⟩
def normalT : T := atomT ⟨#[110, 111, 114, 109, 97, 108]⟩
/-- What a signal does. -/
def sigR (trap link : Bool) (a : T) : Int × (T × Int) :=
  if a.okB then (if sameB a killT && !link then (2, killedT, 0) else if trap then (1, noT, 0) else if sameB a normalT then (0, noT, 0) else (2, a, 0)) else (0, noT, 1)
/-- A number, a term of the call's own, a number. -/
def Ret3 (w : World) (r : Int × (T × Int)) : Ending → World → Prop := fun e w2 =>
  ∃ cs, e = .returned (.tuple #[.int .i64 r.1, .agg cs.toArray, .int .i64 r.2.2]) ∧ Rec.term.rd True w2 (Span w.heap.size w2.heap.size) r.2.1 cs ∧ Below w.heap.size w w2
theorem atom_right {s : ByteArray} (h : nameB s = true) : (atomT s).right = true := by
  rw [atomT, T.right_eq]
  simp [ownB, h]
theorem atom_wt (s : ByteArray) : Rec.term.wt (atomT s) = s.size := by
  rw [Rec.term_wt]; rfl
theorem kill_ok : killT.right = true := atom_right (by decide +kernel)
theorem normal_ok : normalT.right = true := atom_right (by decide +kernel)
theorem kill_wt : Rec.term.wt killT ≤ 1048576 := by rw [killT, atom_wt]; decide
theorem normal_wt : Rec.term.wt normalT ≤ 1048576 := by rw [normalT, atom_wt]; decide

set_option maxRecDepth 100000 in
set_option maxHeartbeats 4000000 in
theorem iSignal (trap link : Bool) (a : T) (cs : List Value) (w : World) (h : Rec.term.rd False w (Old w) a cs) (hw : Rec.term.wt a ≤ 1048576) :
    Calls Try.prog 36 #[.bool trap, .bool link, .agg cs.toArray] w (Ret3 w (sigR trap link a)) := by
  obtain ⟨A, c, rfl, -⟩ := Rec.term_iff.1 (id h)
  have H := Aside.mk h
  clear h
  obtain ⟨res, hres⟩ : ∃ r, r = sigR trap link a := ⟨_, rfl⟩
  rw [← hres]
  have HV := Aside.mk hres
  clear hres
  show Calls Try.prog 36 #[.bool trap, .bool link, .agg #[.int .i64 a.kind, .int .i64 a.num, .string a.str, .slice A a.kids.length c]] w _
  go_enter Try.func36, Try.ntmps36
  go_wp2_with fail
  refine (iTermOK a [.int .i64 a.kind, .int .i64 a.num, .string a.str, .slice A a.kids.length c] _ (Rec.term.old H.out (by go_grown)) hw).mono ?_
  rintro e w1 ⟨rfl, hb1⟩
  have K0 := Aside.mk (((Blk.new w 29 [.int .i64 a.kind, .int .i64 a.num, .string a.str, .slice A a.kids.length c]).alloc _).below hb1)
  have K1 := Aside.mk ((Blk.made (w.alloc _) 29 [.int .i64 0, .int .i64 0, .string ⟨#[]⟩, .slice none 0 0] (g := w.heap.size + 1) (by simp)).below hb1)
  have B1 : Aside (Below w.heap.size w w1) := ⟨below_later (by go_grown) hb1⟩
  clear hb1
  cases ho : a.okB
  · have E : Aside (res = (0, noT, 1)) := ⟨by rw [HV.out, sigR, ho]; rfl⟩
    clear HV ho
    have y0 : w1.cell? ⟨w.heap.size, 0, none⟩ = some (.int .i64 a.kind) := K0.out.cell 0
    have y1 : w1.cell? ⟨w.heap.size, 1, none⟩ = some (.int .i64 a.num) := K0.out.cell 1
    have y2 : w1.cell? ⟨w.heap.size, 2, none⟩ = some (.string a.str) := K0.out.cell 2
    have y3 : w1.cell? ⟨w.heap.size, 3, none⟩ = some (.slice A a.kids.length c) := K0.out.cell 3
    have x0 : w1.cell? ⟨w.heap.size + 1, 0, none⟩ = some (.int .i64 0) := K1.out.cell 0
    have x1 : w1.cell? ⟨w.heap.size + 1, 1, none⟩ = some (.int .i64 0) := K1.out.cell 1
    have x2 : w1.cell? ⟨w.heap.size + 1, 2, none⟩ = some (.string ⟨#[]⟩) := K1.out.cell 2
    have x3 : w1.cell? ⟨w.heap.size + 1, 3, none⟩ = some (.slice none 0 0) := K1.out.cell 3
    have f0 := K1.out.free 0
    have f1 := K1.out.free 1
    have f2 := K1.out.free 2
    have f3 := K1.out.free 3
    go_wp2_with fail
    have k1 := K1.out
    have bel := B1.out
    rw [E.out]
    refine bodyPost_ret (res_tct rfl _ _ (w.heap.size + 1) 29 [.int .i64 0, .int .i64 0, .string ⟨#[]⟩, .slice none 0 0] _ rfl ?k_1 Try.underlying29 rfl (by kernel_rfl)) rfl ⟨_, rfl, ?r_1, ?b_1⟩
    case k_1 => exact (((((k1).set 0 _).set 1 _).set 2 _).set 3 _)
    case b_1 => go_grown
    case r_1 => exact noT_rd _ _ _
  have HKR := Aside.mk (okB_right ho)
  have HV2 : Aside (res = if sameB a killT && !link then (2, killedT, 0) else if trap then (1, noT, 0) else if sameB a normalT then (0, noT, 0) else (2, a, 0)) := ⟨by rw [HV.out, sigR, if_pos ho]⟩
  clear HV ho
  cases hk : sameB a killT
  · have HK := Aside.mk hk
    have y0 : w1.cell? ⟨w.heap.size, 0, none⟩ = some (.int .i64 a.kind) := K0.out.cell 0
    have y1 : w1.cell? ⟨w.heap.size, 1, none⟩ = some (.int .i64 a.num) := K0.out.cell 1
    have y2 : w1.cell? ⟨w.heap.size, 2, none⟩ = some (.string a.str) := K0.out.cell 2
    have y3 : w1.cell? ⟨w.heap.size, 3, none⟩ = some (.slice A a.kids.length c) := K0.out.cell 3
    have x0 : w1.cell? ⟨w.heap.size + 1, 0, none⟩ = some (.int .i64 0) := K1.out.cell 0
    have x1 : w1.cell? ⟨w.heap.size + 1, 1, none⟩ = some (.int .i64 0) := K1.out.cell 1
    have x2 : w1.cell? ⟨w.heap.size + 1, 2, none⟩ = some (.string ⟨#[]⟩) := K1.out.cell 2
    have x3 : w1.cell? ⟨w.heap.size + 1, 3, none⟩ = some (.slice none 0 0) := K1.out.cell 3
    have f0 := K1.out.free 0
    have f1 := K1.out.free 1
    have f2 := K1.out.free 2
    have f3 := K1.out.free 3
    have hlt0 : w.heap.size < w1.heap.size := K0.out.lt
    clear hk
    go_wp2_with fail
    refine region_env [(0, true), (1, false), (2, false), (3, true), (4, true), (5, true), (6, true), (7, true)] (fun w' => Below w1.heap.size w1 w') 32 rfl (by kernel_rfl) (by kernel_rfl) (fun _ _ d _ _ h => by cases d <;> exact h) ((Below.refl _ _).drew) (fun ops fr HFR HSZ hl => ?_)
    have hl_0 := ops_start hl
    clear hl
    obtain ⟨H0, hl_1⟩ := ops_next 0 1 rfl hl_0
    clear hl_0
    obtain ⟨H1, hl_2⟩ := ops_next 1 2 rfl hl_1
    clear hl_1
    obtain ⟨H2, hl_3⟩ := ops_next 2 3 rfl hl_2
    clear hl_2
    obtain ⟨H3, hl_4⟩ := ops_next 3 4 rfl hl_3
    clear hl_3
    obtain ⟨H4, hl_5⟩ := ops_next 4 5 rfl hl_4
    clear hl_4
    obtain ⟨H5, hl_6⟩ := ops_next 5 6 rfl hl_5
    clear hl_5
    obtain ⟨H6, hl_7⟩ := ops_next 6 7 rfl hl_6
    clear hl_6
    obtain ⟨H7, hl_8⟩ := ops_next 7 8 rfl hl_7
    clear hl_7
    clear hl_8
    have x_5 : ext fr 5 = _ := congrArg (fun a => Act.eval a (.tmp 5)) HFR.out
    conv at x_5 => rhs; simp only [Act.eval, Array.getD_eq_getD_getElem?, List.getElem?_toArray, List.getElem?_cons_succ, List.getElem?_cons_zero, Option.getD_some]
    refine env_yes HSZ H0.out ?_ (fun w' hS => ?_) ?_
    rotate_left
    · have h0 := (hS.cell (p := ⟨w.heap.size, 0, none⟩) hlt0).trans y0
      have h1 := (hS.cell (p := ⟨w.heap.size, 1, none⟩) hlt0).trans y1
      have h2 := (hS.cell (p := ⟨w.heap.size, 2, none⟩) hlt0).trans y2
      have h3 := (hS.cell (p := ⟨w.heap.size, 3, none⟩) hlt0).trans y3
      go_simp
      rfl
    refine env_call HSZ H1.out ?_ ?_ ?_ ?_
    rotate_left 2
    · go_simp
      first | rfl | (constructor <;> rfl)
    refine (atom ⟨#[107, 105, 108, 108]⟩ _).mono ?_
    rintro e w2 ⟨rfl, hbx⟩
    have hby : Below w1.heap.size w1 w2 := below_later (Below.refl _ _).drew hbx
    refine ⟨_, rfl, hby, ?_⟩
    clear hbx
    refine env_call HSZ H2.out ?_ ?_ ?_ ?_
    rotate_left 2
    · go_simp
      first | rfl | (constructor <;> rfl)
    refine (same a killT [.int .i64 a.kind, .int .i64 a.num, .string a.str, .slice A a.kids.length c] [.int .i64 2, .int .i64 0, .string ⟨#[107, 105, 108, 108]⟩, .slice none 0 0] _ (Rec.term.old H.out (below_later B1.out hby)) (atomT_rd _ _ _ _) hw kill_wt HKR.out kill_ok).mono ?_
    rintro e w3 ⟨rfl, hbx⟩
    have hbz : Below w1.heap.size w1 w3 := below_later hby hbx
    refine ⟨_, rfl, hbz, ?_⟩
    rw [HK.out]
    clear hbx hby
    refine env_yes HSZ H3.out ?_ (fun w' hS => ?_) ?_
    rotate_left
    · go_simp
      rfl
    refine env_off HSZ H4.out H3.out (by first | rfl | go_simp) ?_
    refine env_off HSZ H5.out H3.out (by first | rfl | go_simp) ?_
    refine env_yes HSZ H6.out ?_ (fun w' hS => ?_) ?_
    rotate_left
    · go_simp
      rfl
    refine env_yes HSZ H7.out ?_ (fun w' hS => ?_) ?_
    rotate_left
    · go_simp
      rfl
    refine env_end ?_
    have hfr := HFR.out
    clear HFR HSZ H0 H1 H2 H3 H4 H5 H6 H7 x_5
    subst hfr
    simp only [putAll, Act.put, List.setIfInBounds_toArray, List.set_cons_succ, List.set_cons_zero]
    clear y0 x0 f0 y1 x1 f1 y2 x2 f2 y3 x3 f3 hlt0
    have K0n := Aside.mk (K0.out.below hbz)
    have K1n := Aside.mk (K1.out.below hbz)
    have B1n := Aside.mk (below_later B1.out hbz)
    clear K0 K1 B1
    have K0 := K0n
    have K1 := K1n
    have B1 := B1n
    clear K0n K1n B1n
    clear hbz
    have HV3 : Aside (res = if trap then (1, noT, 0) else if sameB a normalT then (0, noT, 0) else (2, a, 0)) := ⟨by rw [HV2.out, HK.out]; rfl⟩
    clear HV2 HK
    cases trap
    rotate_left
    · have E : Aside (res = (1, noT, 0)) := ⟨by rw [HV3.out]; rfl⟩
      clear HV3
      have y0 : w3.cell? ⟨w.heap.size, 0, none⟩ = some (.int .i64 a.kind) := K0.out.cell 0
      have y1 : w3.cell? ⟨w.heap.size, 1, none⟩ = some (.int .i64 a.num) := K0.out.cell 1
      have y2 : w3.cell? ⟨w.heap.size, 2, none⟩ = some (.string a.str) := K0.out.cell 2
      have y3 : w3.cell? ⟨w.heap.size, 3, none⟩ = some (.slice A a.kids.length c) := K0.out.cell 3
      have x0 : w3.cell? ⟨w.heap.size + 1, 0, none⟩ = some (.int .i64 0) := K1.out.cell 0
      have x1 : w3.cell? ⟨w.heap.size + 1, 1, none⟩ = some (.int .i64 0) := K1.out.cell 1
      have x2 : w3.cell? ⟨w.heap.size + 1, 2, none⟩ = some (.string ⟨#[]⟩) := K1.out.cell 2
      have x3 : w3.cell? ⟨w.heap.size + 1, 3, none⟩ = some (.slice none 0 0) := K1.out.cell 3
      have f0 := K1.out.free 0
      have f1 := K1.out.free 1
      have f2 := K1.out.free 2
      have f3 := K1.out.free 3
      go_wp2_with fail
      have k1 := K1.out
      have bel := B1.out
      rw [E.out]
      refine bodyPost_ret (res_tct rfl _ _ (w.heap.size + 1) 29 [.int .i64 0, .int .i64 0, .string ⟨#[]⟩, .slice none 0 0] _ rfl ?k_2 Try.underlying29 rfl (by kernel_rfl)) rfl ⟨_, rfl, ?r_2, ?b_2⟩
      case k_2 => exact (((((k1).set 0 _).set 1 _).set 2 _).set 3 _)
      case b_2 => go_grown
      case r_2 => exact noT_rd _ _ _
    cases hk : sameB a normalT
    · have HK := Aside.mk hk
      have E : Aside (res = (2, a, 0)) := ⟨by rw [HV3.out, hk]; rfl⟩
      clear hk HV3
      have y0 : w3.cell? ⟨w.heap.size, 0, none⟩ = some (.int .i64 a.kind) := K0.out.cell 0
      have y1 : w3.cell? ⟨w.heap.size, 1, none⟩ = some (.int .i64 a.num) := K0.out.cell 1
      have y2 : w3.cell? ⟨w.heap.size, 2, none⟩ = some (.string a.str) := K0.out.cell 2
      have y3 : w3.cell? ⟨w.heap.size, 3, none⟩ = some (.slice A a.kids.length c) := K0.out.cell 3
      have x0 : w3.cell? ⟨w.heap.size + 1, 0, none⟩ = some (.int .i64 0) := K1.out.cell 0
      have x1 : w3.cell? ⟨w.heap.size + 1, 1, none⟩ = some (.int .i64 0) := K1.out.cell 1
      have x2 : w3.cell? ⟨w.heap.size + 1, 2, none⟩ = some (.string ⟨#[]⟩) := K1.out.cell 2
      have x3 : w3.cell? ⟨w.heap.size + 1, 3, none⟩ = some (.slice none 0 0) := K1.out.cell 3
      have f0 := K1.out.free 0
      have f1 := K1.out.free 1
      have f2 := K1.out.free 2
      have f3 := K1.out.free 3
      have hlt0 : w.heap.size < w3.heap.size := K0.out.lt
      go_wp2_with fail
      refine region_env [(0, true), (1, false), (2, false), (3, true)] (fun w' => Below w3.heap.size w3 w') 32 rfl (by kernel_rfl) (by kernel_rfl) (fun _ _ d _ _ h => by cases d <;> exact h) ((Below.refl _ _).drew) (fun ops fr HFR HSZ hl => ?_)
      have hl_0 := ops_start hl
      clear hl
      obtain ⟨H0, hl_1⟩ := ops_next 0 1 rfl hl_0
      clear hl_0
      obtain ⟨H1, hl_2⟩ := ops_next 1 2 rfl hl_1
      clear hl_1
      obtain ⟨H2, hl_3⟩ := ops_next 2 3 rfl hl_2
      clear hl_2
      obtain ⟨H3, hl_4⟩ := ops_next 3 4 rfl hl_3
      clear hl_3
      clear hl_4
      have x_5 : ext fr 5 = _ := congrArg (fun a => Act.eval a (.tmp 5)) HFR.out
      conv at x_5 => rhs; simp only [Act.eval, Array.getD_eq_getD_getElem?, List.getElem?_toArray, List.getElem?_cons_succ, List.getElem?_cons_zero, Option.getD_some]
      refine env_yes HSZ H0.out ?_ (fun w' hS => ?_) ?_
      rotate_left
      · have h0 := (hS.cell (p := ⟨w.heap.size, 0, none⟩) hlt0).trans y0
        have h1 := (hS.cell (p := ⟨w.heap.size, 1, none⟩) hlt0).trans y1
        have h2 := (hS.cell (p := ⟨w.heap.size, 2, none⟩) hlt0).trans y2
        have h3 := (hS.cell (p := ⟨w.heap.size, 3, none⟩) hlt0).trans y3
        go_simp
        rfl
      refine env_call HSZ H1.out ?_ ?_ ?_ ?_
      rotate_left 2
      · go_simp
        first | rfl | (constructor <;> rfl)
      refine (atom ⟨#[110, 111, 114, 109, 97, 108]⟩ _).mono ?_
      rintro e w6 ⟨rfl, hbx⟩
      have hby : Below w3.heap.size w3 w6 := below_later (Below.refl _ _).drew hbx
      refine ⟨_, rfl, hby, ?_⟩
      clear hbx
      refine env_call HSZ H2.out ?_ ?_ ?_ ?_
      rotate_left 2
      · go_simp
        first | rfl | (constructor <;> rfl)
      refine (same a normalT [.int .i64 a.kind, .int .i64 a.num, .string a.str, .slice A a.kids.length c] [.int .i64 2, .int .i64 0, .string ⟨#[110, 111, 114, 109, 97, 108]⟩, .slice none 0 0] _ (Rec.term.old H.out (below_later B1.out hby)) (atomT_rd _ _ _ _) hw normal_wt HKR.out normal_ok).mono ?_
      rintro e w7 ⟨rfl, hbx⟩
      have hbz : Below w3.heap.size w3 w7 := below_later hby hbx
      refine ⟨_, rfl, hbz, ?_⟩
      rw [HK.out]
      clear hbx hby
      refine env_yes HSZ H3.out ?_ (fun w' hS => ?_) ?_
      rotate_left
      · go_simp
        rfl
      refine env_end ?_
      have hfr := HFR.out
      clear HFR HSZ H0 H1 H2 H3 x_5
      subst hfr
      simp only [putAll, Act.put, List.setIfInBounds_toArray, List.set_cons_succ, List.set_cons_zero]
      clear y0 x0 f0 y1 x1 f1 y2 x2 f2 y3 x3 f3 hlt0
      have K0n := Aside.mk (K0.out.below hbz)
      have K1n := Aside.mk (K1.out.below hbz)
      have B1n := Aside.mk (below_later B1.out hbz)
      clear K0 K1 B1
      have K0 := K0n
      have K1 := K1n
      have B1 := B1n
      clear K0n K1n B1n
      clear hbz
      have y0 : w7.cell? ⟨w.heap.size, 0, none⟩ = some (.int .i64 a.kind) := K0.out.cell 0
      have y1 : w7.cell? ⟨w.heap.size, 1, none⟩ = some (.int .i64 a.num) := K0.out.cell 1
      have y2 : w7.cell? ⟨w.heap.size, 2, none⟩ = some (.string a.str) := K0.out.cell 2
      have y3 : w7.cell? ⟨w.heap.size, 3, none⟩ = some (.slice A a.kids.length c) := K0.out.cell 3
      have x0 : w7.cell? ⟨w.heap.size + 1, 0, none⟩ = some (.int .i64 0) := K1.out.cell 0
      have x1 : w7.cell? ⟨w.heap.size + 1, 1, none⟩ = some (.int .i64 0) := K1.out.cell 1
      have x2 : w7.cell? ⟨w.heap.size + 1, 2, none⟩ = some (.string ⟨#[]⟩) := K1.out.cell 2
      have x3 : w7.cell? ⟨w.heap.size + 1, 3, none⟩ = some (.slice none 0 0) := K1.out.cell 3
      have f0 := K1.out.free 0
      have f1 := K1.out.free 1
      have f2 := K1.out.free 2
      have f3 := K1.out.free 3
      go_wp2_with fail
      refine (copyTerm a [.int .i64 a.kind, .int .i64 a.num, .string a.str, .slice A a.kids.length c] _ (Rec.term.old H.out B1.out) (by omega)).mono ?_
      rintro e w5 ⟨cs2, rfl, hr5, hbx⟩
      obtain ⟨v0, v1, v2, v3a, v3b, v3c, rfl⟩ := shapeTerm hr5
      have hs5 : w.heap.size + 2 ≤ w7.heap.size := K1.out.lt
      have HR5 := Aside.mk hr5
      clear y0 x0 f0 y1 x1 f1 y2 x2 f2 y3 x3 f3
      have K0n := Aside.mk (K0.out.below hbx)
      have K1n := Aside.mk (K1.out.below hbx)
      have B1n := Aside.mk (below_later B1.out hbx)
      clear K0 K1 B1
      have K0 := K0n
      have K1 := K1n
      have B1 := B1n
      clear K0n K1n B1n
      clear hr5 hbx
      have y0 : w5.cell? ⟨w.heap.size, 0, none⟩ = some (.int .i64 a.kind) := K0.out.cell 0
      have y1 : w5.cell? ⟨w.heap.size, 1, none⟩ = some (.int .i64 a.num) := K0.out.cell 1
      have y2 : w5.cell? ⟨w.heap.size, 2, none⟩ = some (.string a.str) := K0.out.cell 2
      have y3 : w5.cell? ⟨w.heap.size, 3, none⟩ = some (.slice A a.kids.length c) := K0.out.cell 3
      have x0 : w5.cell? ⟨w.heap.size + 1, 0, none⟩ = some (.int .i64 0) := K1.out.cell 0
      have x1 : w5.cell? ⟨w.heap.size + 1, 1, none⟩ = some (.int .i64 0) := K1.out.cell 1
      have x2 : w5.cell? ⟨w.heap.size + 1, 2, none⟩ = some (.string ⟨#[]⟩) := K1.out.cell 2
      have x3 : w5.cell? ⟨w.heap.size + 1, 3, none⟩ = some (.slice none 0 0) := K1.out.cell 3
      have f0 := K1.out.free 0
      have f1 := K1.out.free 1
      have f2 := K1.out.free 2
      have f3 := K1.out.free 3
      go_wp2_with fail
      have k1 := K1.out
      have bel := B1.out
      rw [E.out]
      refine bodyPost_ret (res_tct rfl _ _ (w.heap.size + 1) 29 [.int .i64 v0, .int .i64 v1, .string v2, .slice v3a v3b v3c] _ rfl ?k_3 Try.underlying29 rfl (by kernel_rfl)) rfl ⟨_, rfl, ?r_3, ?b_3⟩
      case k_3 => exact ((((k1.set 0 _).set 1 _).set 2 _).set 3 _)
      case b_3 => go_grown
      case r_3 => exact Rec.term.mono (Rec.term.over HR5.out (fun b h1 h2 => by rw [heap_far (by omega)]; rw [heap_far (by omega)]; rw [heap_far (by omega)]; rw [heap_far (by omega)])) (fun b h => by have h1 := h.1; have h2 := h.2; simp [Span]; omega)
    · have HK := Aside.mk hk
      have E : Aside (res = (0, noT, 0)) := ⟨by rw [HV3.out, hk]; rfl⟩
      clear hk HV3
      have y0 : w3.cell? ⟨w.heap.size, 0, none⟩ = some (.int .i64 a.kind) := K0.out.cell 0
      have y1 : w3.cell? ⟨w.heap.size, 1, none⟩ = some (.int .i64 a.num) := K0.out.cell 1
      have y2 : w3.cell? ⟨w.heap.size, 2, none⟩ = some (.string a.str) := K0.out.cell 2
      have y3 : w3.cell? ⟨w.heap.size, 3, none⟩ = some (.slice A a.kids.length c) := K0.out.cell 3
      have x0 : w3.cell? ⟨w.heap.size + 1, 0, none⟩ = some (.int .i64 0) := K1.out.cell 0
      have x1 : w3.cell? ⟨w.heap.size + 1, 1, none⟩ = some (.int .i64 0) := K1.out.cell 1
      have x2 : w3.cell? ⟨w.heap.size + 1, 2, none⟩ = some (.string ⟨#[]⟩) := K1.out.cell 2
      have x3 : w3.cell? ⟨w.heap.size + 1, 3, none⟩ = some (.slice none 0 0) := K1.out.cell 3
      have f0 := K1.out.free 0
      have f1 := K1.out.free 1
      have f2 := K1.out.free 2
      have f3 := K1.out.free 3
      have hlt0 : w.heap.size < w3.heap.size := K0.out.lt
      go_wp2_with fail
      refine region_env [(0, true), (1, false), (2, false), (3, true)] (fun w' => Below w3.heap.size w3 w') 32 rfl (by kernel_rfl) (by kernel_rfl) (fun _ _ d _ _ h => by cases d <;> exact h) ((Below.refl _ _).drew) (fun ops fr HFR HSZ hl => ?_)
      have hl_0 := ops_start hl
      clear hl
      obtain ⟨H0, hl_1⟩ := ops_next 0 1 rfl hl_0
      clear hl_0
      obtain ⟨H1, hl_2⟩ := ops_next 1 2 rfl hl_1
      clear hl_1
      obtain ⟨H2, hl_3⟩ := ops_next 2 3 rfl hl_2
      clear hl_2
      obtain ⟨H3, hl_4⟩ := ops_next 3 4 rfl hl_3
      clear hl_3
      clear hl_4
      have x_5 : ext fr 5 = _ := congrArg (fun a => Act.eval a (.tmp 5)) HFR.out
      conv at x_5 => rhs; simp only [Act.eval, Array.getD_eq_getD_getElem?, List.getElem?_toArray, List.getElem?_cons_succ, List.getElem?_cons_zero, Option.getD_some]
      refine env_yes HSZ H0.out ?_ (fun w' hS => ?_) ?_
      rotate_left
      · have h0 := (hS.cell (p := ⟨w.heap.size, 0, none⟩) hlt0).trans y0
        have h1 := (hS.cell (p := ⟨w.heap.size, 1, none⟩) hlt0).trans y1
        have h2 := (hS.cell (p := ⟨w.heap.size, 2, none⟩) hlt0).trans y2
        have h3 := (hS.cell (p := ⟨w.heap.size, 3, none⟩) hlt0).trans y3
        go_simp
        rfl
      refine env_call HSZ H1.out ?_ ?_ ?_ ?_
      rotate_left 2
      · go_simp
        first | rfl | (constructor <;> rfl)
      refine (atom ⟨#[110, 111, 114, 109, 97, 108]⟩ _).mono ?_
      rintro e w6 ⟨rfl, hbx⟩
      have hby : Below w3.heap.size w3 w6 := below_later (Below.refl _ _).drew hbx
      refine ⟨_, rfl, hby, ?_⟩
      clear hbx
      refine env_call HSZ H2.out ?_ ?_ ?_ ?_
      rotate_left 2
      · go_simp
        first | rfl | (constructor <;> rfl)
      refine (same a normalT [.int .i64 a.kind, .int .i64 a.num, .string a.str, .slice A a.kids.length c] [.int .i64 2, .int .i64 0, .string ⟨#[110, 111, 114, 109, 97, 108]⟩, .slice none 0 0] _ (Rec.term.old H.out (below_later B1.out hby)) (atomT_rd _ _ _ _) hw normal_wt HKR.out normal_ok).mono ?_
      rintro e w7 ⟨rfl, hbx⟩
      have hbz : Below w3.heap.size w3 w7 := below_later hby hbx
      refine ⟨_, rfl, hbz, ?_⟩
      rw [HK.out]
      clear hbx hby
      refine env_yes HSZ H3.out ?_ (fun w' hS => ?_) ?_
      rotate_left
      · go_simp
        rfl
      refine env_end ?_
      have hfr := HFR.out
      clear HFR HSZ H0 H1 H2 H3 x_5
      subst hfr
      simp only [putAll, Act.put, List.setIfInBounds_toArray, List.set_cons_succ, List.set_cons_zero]
      clear y0 x0 f0 y1 x1 f1 y2 x2 f2 y3 x3 f3 hlt0
      have K0n := Aside.mk (K0.out.below hbz)
      have K1n := Aside.mk (K1.out.below hbz)
      have B1n := Aside.mk (below_later B1.out hbz)
      clear K0 K1 B1
      have K0 := K0n
      have K1 := K1n
      have B1 := B1n
      clear K0n K1n B1n
      clear hbz
      have y0 : w7.cell? ⟨w.heap.size, 0, none⟩ = some (.int .i64 a.kind) := K0.out.cell 0
      have y1 : w7.cell? ⟨w.heap.size, 1, none⟩ = some (.int .i64 a.num) := K0.out.cell 1
      have y2 : w7.cell? ⟨w.heap.size, 2, none⟩ = some (.string a.str) := K0.out.cell 2
      have y3 : w7.cell? ⟨w.heap.size, 3, none⟩ = some (.slice A a.kids.length c) := K0.out.cell 3
      have x0 : w7.cell? ⟨w.heap.size + 1, 0, none⟩ = some (.int .i64 0) := K1.out.cell 0
      have x1 : w7.cell? ⟨w.heap.size + 1, 1, none⟩ = some (.int .i64 0) := K1.out.cell 1
      have x2 : w7.cell? ⟨w.heap.size + 1, 2, none⟩ = some (.string ⟨#[]⟩) := K1.out.cell 2
      have x3 : w7.cell? ⟨w.heap.size + 1, 3, none⟩ = some (.slice none 0 0) := K1.out.cell 3
      have f0 := K1.out.free 0
      have f1 := K1.out.free 1
      have f2 := K1.out.free 2
      have f3 := K1.out.free 3
      go_wp2_with fail
      have k1 := K1.out
      have bel := B1.out
      rw [E.out]
      refine bodyPost_ret (res_tct rfl _ _ (w.heap.size + 1) 29 [.int .i64 0, .int .i64 0, .string ⟨#[]⟩, .slice none 0 0] _ rfl ?k_4 Try.underlying29 rfl (by kernel_rfl)) rfl ⟨_, rfl, ?r_4, ?b_4⟩
      case k_4 => exact (((((k1).set 0 _).set 1 _).set 2 _).set 3 _)
      case b_4 => go_grown
      case r_4 => exact noT_rd _ _ _
  · have HK := Aside.mk hk
    have y0 : w1.cell? ⟨w.heap.size, 0, none⟩ = some (.int .i64 a.kind) := K0.out.cell 0
    have y1 : w1.cell? ⟨w.heap.size, 1, none⟩ = some (.int .i64 a.num) := K0.out.cell 1
    have y2 : w1.cell? ⟨w.heap.size, 2, none⟩ = some (.string a.str) := K0.out.cell 2
    have y3 : w1.cell? ⟨w.heap.size, 3, none⟩ = some (.slice A a.kids.length c) := K0.out.cell 3
    have x0 : w1.cell? ⟨w.heap.size + 1, 0, none⟩ = some (.int .i64 0) := K1.out.cell 0
    have x1 : w1.cell? ⟨w.heap.size + 1, 1, none⟩ = some (.int .i64 0) := K1.out.cell 1
    have x2 : w1.cell? ⟨w.heap.size + 1, 2, none⟩ = some (.string ⟨#[]⟩) := K1.out.cell 2
    have x3 : w1.cell? ⟨w.heap.size + 1, 3, none⟩ = some (.slice none 0 0) := K1.out.cell 3
    have f0 := K1.out.free 0
    have f1 := K1.out.free 1
    have f2 := K1.out.free 2
    have f3 := K1.out.free 3
    have hlt0 : w.heap.size < w1.heap.size := K0.out.lt
    clear hk
    cases link
    · skip
      go_wp2_with fail
      refine region_env [(0, true), (1, false), (2, false), (3, true), (4, true), (5, true), (6, true), (7, true)] (fun w' => Below w1.heap.size w1 w') 32 rfl (by kernel_rfl) (by kernel_rfl) (fun _ _ d _ _ h => by cases d <;> exact h) ((Below.refl _ _).drew) (fun ops fr HFR HSZ hl => ?_)
      have hl_0 := ops_start hl
      clear hl
      obtain ⟨H0, hl_1⟩ := ops_next 0 1 rfl hl_0
      clear hl_0
      obtain ⟨H1, hl_2⟩ := ops_next 1 2 rfl hl_1
      clear hl_1
      obtain ⟨H2, hl_3⟩ := ops_next 2 3 rfl hl_2
      clear hl_2
      obtain ⟨H3, hl_4⟩ := ops_next 3 4 rfl hl_3
      clear hl_3
      obtain ⟨H4, hl_5⟩ := ops_next 4 5 rfl hl_4
      clear hl_4
      obtain ⟨H5, hl_6⟩ := ops_next 5 6 rfl hl_5
      clear hl_5
      obtain ⟨H6, hl_7⟩ := ops_next 6 7 rfl hl_6
      clear hl_6
      obtain ⟨H7, hl_8⟩ := ops_next 7 8 rfl hl_7
      clear hl_7
      clear hl_8
      have x_5 : ext fr 5 = _ := congrArg (fun a => Act.eval a (.tmp 5)) HFR.out
      conv at x_5 => rhs; simp only [Act.eval, Array.getD_eq_getD_getElem?, List.getElem?_toArray, List.getElem?_cons_succ, List.getElem?_cons_zero, Option.getD_some]
      have x_1 : ext fr 1 = _ := congrArg (fun a => Act.eval a (.tmp 1)) HFR.out
      conv at x_1 => rhs; simp only [Act.eval, Array.getD_eq_getD_getElem?, List.getElem?_toArray, List.getElem?_cons_succ, List.getElem?_cons_zero, Option.getD_some]
      refine env_yes HSZ H0.out ?_ (fun w' hS => ?_) ?_
      rotate_left
      · have h0 := (hS.cell (p := ⟨w.heap.size, 0, none⟩) hlt0).trans y0
        have h1 := (hS.cell (p := ⟨w.heap.size, 1, none⟩) hlt0).trans y1
        have h2 := (hS.cell (p := ⟨w.heap.size, 2, none⟩) hlt0).trans y2
        have h3 := (hS.cell (p := ⟨w.heap.size, 3, none⟩) hlt0).trans y3
        go_simp
        rfl
      refine env_call HSZ H1.out ?_ ?_ ?_ ?_
      rotate_left 2
      · go_simp
        first | rfl | (constructor <;> rfl)
      refine (atom ⟨#[107, 105, 108, 108]⟩ _).mono ?_
      rintro e w2 ⟨rfl, hbx⟩
      have hby : Below w1.heap.size w1 w2 := below_later (Below.refl _ _).drew hbx
      refine ⟨_, rfl, hby, ?_⟩
      clear hbx
      refine env_call HSZ H2.out ?_ ?_ ?_ ?_
      rotate_left 2
      · go_simp
        first | rfl | (constructor <;> rfl)
      refine (same a killT [.int .i64 a.kind, .int .i64 a.num, .string a.str, .slice A a.kids.length c] [.int .i64 2, .int .i64 0, .string ⟨#[107, 105, 108, 108]⟩, .slice none 0 0] _ (Rec.term.old H.out (below_later B1.out hby)) (atomT_rd _ _ _ _) hw kill_wt HKR.out kill_ok).mono ?_
      rintro e w3 ⟨rfl, hbx⟩
      have hbz : Below w1.heap.size w1 w3 := below_later hby hbx
      refine ⟨_, rfl, hbz, ?_⟩
      rw [HK.out]
      clear hbx hby
      refine env_yes HSZ H3.out ?_ (fun w' hS => ?_) ?_
      rotate_left
      · go_simp
        rfl
      refine env_on HSZ H4.out H3.out (by first | rfl | go_simp) ?_ (fun w' hS => ?_) ?_
      rotate_left
      · go_simp
        rfl
      refine env_on HSZ H5.out H3.out (by first | rfl | go_simp) ?_ (fun w' hS => ?_) ?_
      rotate_left
      · go_simp
        rfl
      refine env_yes HSZ H6.out ?_ (fun w' hS => ?_) ?_
      rotate_left
      · go_simp
        rfl
      refine env_yes HSZ H7.out ?_ (fun w' hS => ?_) ?_
      rotate_left
      · go_simp
        rfl
      refine env_end ?_
      have hfr := HFR.out
      clear HFR HSZ H0 H1 H2 H3 H4 H5 H6 H7 x_5 x_1
      subst hfr
      simp only [putAll, Act.put, List.setIfInBounds_toArray, List.set_cons_succ, List.set_cons_zero]
      clear y0 x0 f0 y1 x1 f1 y2 x2 f2 y3 x3 f3 hlt0
      have K0n := Aside.mk (K0.out.below hbz)
      have K1n := Aside.mk (K1.out.below hbz)
      have B1n := Aside.mk (below_later B1.out hbz)
      clear K0 K1 B1
      have K0 := K0n
      have K1 := K1n
      have B1 := B1n
      clear K0n K1n B1n
      clear hbz
      have y0 : w3.cell? ⟨w.heap.size, 0, none⟩ = some (.int .i64 a.kind) := K0.out.cell 0
      have y1 : w3.cell? ⟨w.heap.size, 1, none⟩ = some (.int .i64 a.num) := K0.out.cell 1
      have y2 : w3.cell? ⟨w.heap.size, 2, none⟩ = some (.string a.str) := K0.out.cell 2
      have y3 : w3.cell? ⟨w.heap.size, 3, none⟩ = some (.slice A a.kids.length c) := K0.out.cell 3
      have x0 : w3.cell? ⟨w.heap.size + 1, 0, none⟩ = some (.int .i64 0) := K1.out.cell 0
      have x1 : w3.cell? ⟨w.heap.size + 1, 1, none⟩ = some (.int .i64 0) := K1.out.cell 1
      have x2 : w3.cell? ⟨w.heap.size + 1, 2, none⟩ = some (.string ⟨#[]⟩) := K1.out.cell 2
      have x3 : w3.cell? ⟨w.heap.size + 1, 3, none⟩ = some (.slice none 0 0) := K1.out.cell 3
      have f0 := K1.out.free 0
      have f1 := K1.out.free 1
      have f2 := K1.out.free 2
      have f3 := K1.out.free 3
      have E : Aside (res = (2, killedT, 0)) := ⟨by rw [HV2.out]; simp [HK.out]⟩
      clear HV2
      go_wp2_with fail
      refine (atom ⟨#[107, 105, 108, 108, 101, 100]⟩ _).mono ?_
      rintro e w4 ⟨rfl, hbx⟩
      have K0n := Aside.mk (K0.out.below hbx)
      have K1n := Aside.mk (K1.out.below hbx)
      have B1n := Aside.mk (below_later B1.out hbx)
      clear K0 K1 B1
      have K0 := K0n
      have K1 := K1n
      have B1 := B1n
      clear K0n K1n B1n
      clear hbx
      have y0 : w4.cell? ⟨w.heap.size, 0, none⟩ = some (.int .i64 a.kind) := K0.out.cell 0
      have y1 : w4.cell? ⟨w.heap.size, 1, none⟩ = some (.int .i64 a.num) := K0.out.cell 1
      have y2 : w4.cell? ⟨w.heap.size, 2, none⟩ = some (.string a.str) := K0.out.cell 2
      have y3 : w4.cell? ⟨w.heap.size, 3, none⟩ = some (.slice A a.kids.length c) := K0.out.cell 3
      have x0 : w4.cell? ⟨w.heap.size + 1, 0, none⟩ = some (.int .i64 0) := K1.out.cell 0
      have x1 : w4.cell? ⟨w.heap.size + 1, 1, none⟩ = some (.int .i64 0) := K1.out.cell 1
      have x2 : w4.cell? ⟨w.heap.size + 1, 2, none⟩ = some (.string ⟨#[]⟩) := K1.out.cell 2
      have x3 : w4.cell? ⟨w.heap.size + 1, 3, none⟩ = some (.slice none 0 0) := K1.out.cell 3
      have f0 := K1.out.free 0
      have f1 := K1.out.free 1
      have f2 := K1.out.free 2
      have f3 := K1.out.free 3
      go_wp2_with fail
      have k1 := K1.out
      have bel := B1.out
      rw [E.out]
      refine bodyPost_ret (res_tct rfl _ _ (w.heap.size + 1) 29 [.int .i64 2, .int .i64 0, .string ⟨#[107, 105, 108, 108, 101, 100]⟩, .slice none 0 0] _ rfl ?k_5 Try.underlying29 rfl (by kernel_rfl)) rfl ⟨_, rfl, ?r_5, ?b_5⟩
      case k_5 => exact (((((k1).set 0 _).set 1 _).set 2 _).set 3 _)
      case b_5 => go_grown
      case r_5 => exact atomT_rd _ _ _ _
    · skip
      go_wp2_with fail
      refine region_env [(0, true), (1, false), (2, false), (3, true), (4, true), (5, true), (6, true), (7, true)] (fun w' => Below w1.heap.size w1 w') 32 rfl (by kernel_rfl) (by kernel_rfl) (fun _ _ d _ _ h => by cases d <;> exact h) ((Below.refl _ _).drew) (fun ops fr HFR HSZ hl => ?_)
      have hl_0 := ops_start hl
      clear hl
      obtain ⟨H0, hl_1⟩ := ops_next 0 1 rfl hl_0
      clear hl_0
      obtain ⟨H1, hl_2⟩ := ops_next 1 2 rfl hl_1
      clear hl_1
      obtain ⟨H2, hl_3⟩ := ops_next 2 3 rfl hl_2
      clear hl_2
      obtain ⟨H3, hl_4⟩ := ops_next 3 4 rfl hl_3
      clear hl_3
      obtain ⟨H4, hl_5⟩ := ops_next 4 5 rfl hl_4
      clear hl_4
      obtain ⟨H5, hl_6⟩ := ops_next 5 6 rfl hl_5
      clear hl_5
      obtain ⟨H6, hl_7⟩ := ops_next 6 7 rfl hl_6
      clear hl_6
      obtain ⟨H7, hl_8⟩ := ops_next 7 8 rfl hl_7
      clear hl_7
      clear hl_8
      have x_5 : ext fr 5 = _ := congrArg (fun a => Act.eval a (.tmp 5)) HFR.out
      conv at x_5 => rhs; simp only [Act.eval, Array.getD_eq_getD_getElem?, List.getElem?_toArray, List.getElem?_cons_succ, List.getElem?_cons_zero, Option.getD_some]
      have x_1 : ext fr 1 = _ := congrArg (fun a => Act.eval a (.tmp 1)) HFR.out
      conv at x_1 => rhs; simp only [Act.eval, Array.getD_eq_getD_getElem?, List.getElem?_toArray, List.getElem?_cons_succ, List.getElem?_cons_zero, Option.getD_some]
      refine env_yes HSZ H0.out ?_ (fun w' hS => ?_) ?_
      rotate_left
      · have h0 := (hS.cell (p := ⟨w.heap.size, 0, none⟩) hlt0).trans y0
        have h1 := (hS.cell (p := ⟨w.heap.size, 1, none⟩) hlt0).trans y1
        have h2 := (hS.cell (p := ⟨w.heap.size, 2, none⟩) hlt0).trans y2
        have h3 := (hS.cell (p := ⟨w.heap.size, 3, none⟩) hlt0).trans y3
        go_simp
        rfl
      refine env_call HSZ H1.out ?_ ?_ ?_ ?_
      rotate_left 2
      · go_simp
        first | rfl | (constructor <;> rfl)
      refine (atom ⟨#[107, 105, 108, 108]⟩ _).mono ?_
      rintro e w2 ⟨rfl, hbx⟩
      have hby : Below w1.heap.size w1 w2 := below_later (Below.refl _ _).drew hbx
      refine ⟨_, rfl, hby, ?_⟩
      clear hbx
      refine env_call HSZ H2.out ?_ ?_ ?_ ?_
      rotate_left 2
      · go_simp
        first | rfl | (constructor <;> rfl)
      refine (same a killT [.int .i64 a.kind, .int .i64 a.num, .string a.str, .slice A a.kids.length c] [.int .i64 2, .int .i64 0, .string ⟨#[107, 105, 108, 108]⟩, .slice none 0 0] _ (Rec.term.old H.out (below_later B1.out hby)) (atomT_rd _ _ _ _) hw kill_wt HKR.out kill_ok).mono ?_
      rintro e w3 ⟨rfl, hbx⟩
      have hbz : Below w1.heap.size w1 w3 := below_later hby hbx
      refine ⟨_, rfl, hbz, ?_⟩
      rw [HK.out]
      clear hbx hby
      refine env_yes HSZ H3.out ?_ (fun w' hS => ?_) ?_
      rotate_left
      · go_simp
        rfl
      refine env_on HSZ H4.out H3.out (by first | rfl | go_simp) ?_ (fun w' hS => ?_) ?_
      rotate_left
      · go_simp
        rfl
      refine env_on HSZ H5.out H3.out (by first | rfl | go_simp) ?_ (fun w' hS => ?_) ?_
      rotate_left
      · go_simp
        rfl
      refine env_yes HSZ H6.out ?_ (fun w' hS => ?_) ?_
      rotate_left
      · go_simp
        rfl
      refine env_yes HSZ H7.out ?_ (fun w' hS => ?_) ?_
      rotate_left
      · go_simp
        rfl
      refine env_end ?_
      have hfr := HFR.out
      clear HFR HSZ H0 H1 H2 H3 H4 H5 H6 H7 x_5 x_1
      subst hfr
      simp only [putAll, Act.put, List.setIfInBounds_toArray, List.set_cons_succ, List.set_cons_zero]
      clear y0 x0 f0 y1 x1 f1 y2 x2 f2 y3 x3 f3 hlt0
      have K0n := Aside.mk (K0.out.below hbz)
      have K1n := Aside.mk (K1.out.below hbz)
      have B1n := Aside.mk (below_later B1.out hbz)
      clear K0 K1 B1
      have K0 := K0n
      have K1 := K1n
      have B1 := B1n
      clear K0n K1n B1n
      clear hbz
      have HV3 : Aside (res = if trap then (1, noT, 0) else if sameB a normalT then (0, noT, 0) else (2, a, 0)) := ⟨by rw [HV2.out, HK.out]; rfl⟩
      clear HV2 HK
      cases trap
      rotate_left
      · have E : Aside (res = (1, noT, 0)) := ⟨by rw [HV3.out]; rfl⟩
        clear HV3
        have y0 : w3.cell? ⟨w.heap.size, 0, none⟩ = some (.int .i64 a.kind) := K0.out.cell 0
        have y1 : w3.cell? ⟨w.heap.size, 1, none⟩ = some (.int .i64 a.num) := K0.out.cell 1
        have y2 : w3.cell? ⟨w.heap.size, 2, none⟩ = some (.string a.str) := K0.out.cell 2
        have y3 : w3.cell? ⟨w.heap.size, 3, none⟩ = some (.slice A a.kids.length c) := K0.out.cell 3
        have x0 : w3.cell? ⟨w.heap.size + 1, 0, none⟩ = some (.int .i64 0) := K1.out.cell 0
        have x1 : w3.cell? ⟨w.heap.size + 1, 1, none⟩ = some (.int .i64 0) := K1.out.cell 1
        have x2 : w3.cell? ⟨w.heap.size + 1, 2, none⟩ = some (.string ⟨#[]⟩) := K1.out.cell 2
        have x3 : w3.cell? ⟨w.heap.size + 1, 3, none⟩ = some (.slice none 0 0) := K1.out.cell 3
        have f0 := K1.out.free 0
        have f1 := K1.out.free 1
        have f2 := K1.out.free 2
        have f3 := K1.out.free 3
        go_wp2_with fail
        have k1 := K1.out
        have bel := B1.out
        rw [E.out]
        refine bodyPost_ret (res_tct rfl _ _ (w.heap.size + 1) 29 [.int .i64 0, .int .i64 0, .string ⟨#[]⟩, .slice none 0 0] _ rfl ?k_6 Try.underlying29 rfl (by kernel_rfl)) rfl ⟨_, rfl, ?r_6, ?b_6⟩
        case k_6 => exact (((((k1).set 0 _).set 1 _).set 2 _).set 3 _)
        case b_6 => go_grown
        case r_6 => exact noT_rd _ _ _
      cases hk : sameB a normalT
      · have HK := Aside.mk hk
        have E : Aside (res = (2, a, 0)) := ⟨by rw [HV3.out, hk]; rfl⟩
        clear hk HV3
        have y0 : w3.cell? ⟨w.heap.size, 0, none⟩ = some (.int .i64 a.kind) := K0.out.cell 0
        have y1 : w3.cell? ⟨w.heap.size, 1, none⟩ = some (.int .i64 a.num) := K0.out.cell 1
        have y2 : w3.cell? ⟨w.heap.size, 2, none⟩ = some (.string a.str) := K0.out.cell 2
        have y3 : w3.cell? ⟨w.heap.size, 3, none⟩ = some (.slice A a.kids.length c) := K0.out.cell 3
        have x0 : w3.cell? ⟨w.heap.size + 1, 0, none⟩ = some (.int .i64 0) := K1.out.cell 0
        have x1 : w3.cell? ⟨w.heap.size + 1, 1, none⟩ = some (.int .i64 0) := K1.out.cell 1
        have x2 : w3.cell? ⟨w.heap.size + 1, 2, none⟩ = some (.string ⟨#[]⟩) := K1.out.cell 2
        have x3 : w3.cell? ⟨w.heap.size + 1, 3, none⟩ = some (.slice none 0 0) := K1.out.cell 3
        have f0 := K1.out.free 0
        have f1 := K1.out.free 1
        have f2 := K1.out.free 2
        have f3 := K1.out.free 3
        have hlt0 : w.heap.size < w3.heap.size := K0.out.lt
        go_wp2_with fail
        refine region_env [(0, true), (1, false), (2, false), (3, true)] (fun w' => Below w3.heap.size w3 w') 32 rfl (by kernel_rfl) (by kernel_rfl) (fun _ _ d _ _ h => by cases d <;> exact h) ((Below.refl _ _).drew) (fun ops fr HFR HSZ hl => ?_)
        have hl_0 := ops_start hl
        clear hl
        obtain ⟨H0, hl_1⟩ := ops_next 0 1 rfl hl_0
        clear hl_0
        obtain ⟨H1, hl_2⟩ := ops_next 1 2 rfl hl_1
        clear hl_1
        obtain ⟨H2, hl_3⟩ := ops_next 2 3 rfl hl_2
        clear hl_2
        obtain ⟨H3, hl_4⟩ := ops_next 3 4 rfl hl_3
        clear hl_3
        clear hl_4
        have x_5 : ext fr 5 = _ := congrArg (fun a => Act.eval a (.tmp 5)) HFR.out
        conv at x_5 => rhs; simp only [Act.eval, Array.getD_eq_getD_getElem?, List.getElem?_toArray, List.getElem?_cons_succ, List.getElem?_cons_zero, Option.getD_some]
        refine env_yes HSZ H0.out ?_ (fun w' hS => ?_) ?_
        rotate_left
        · have h0 := (hS.cell (p := ⟨w.heap.size, 0, none⟩) hlt0).trans y0
          have h1 := (hS.cell (p := ⟨w.heap.size, 1, none⟩) hlt0).trans y1
          have h2 := (hS.cell (p := ⟨w.heap.size, 2, none⟩) hlt0).trans y2
          have h3 := (hS.cell (p := ⟨w.heap.size, 3, none⟩) hlt0).trans y3
          go_simp
          rfl
        refine env_call HSZ H1.out ?_ ?_ ?_ ?_
        rotate_left 2
        · go_simp
          first | rfl | (constructor <;> rfl)
        refine (atom ⟨#[110, 111, 114, 109, 97, 108]⟩ _).mono ?_
        rintro e w6 ⟨rfl, hbx⟩
        have hby : Below w3.heap.size w3 w6 := below_later (Below.refl _ _).drew hbx
        refine ⟨_, rfl, hby, ?_⟩
        clear hbx
        refine env_call HSZ H2.out ?_ ?_ ?_ ?_
        rotate_left 2
        · go_simp
          first | rfl | (constructor <;> rfl)
        refine (same a normalT [.int .i64 a.kind, .int .i64 a.num, .string a.str, .slice A a.kids.length c] [.int .i64 2, .int .i64 0, .string ⟨#[110, 111, 114, 109, 97, 108]⟩, .slice none 0 0] _ (Rec.term.old H.out (below_later B1.out hby)) (atomT_rd _ _ _ _) hw normal_wt HKR.out normal_ok).mono ?_
        rintro e w7 ⟨rfl, hbx⟩
        have hbz : Below w3.heap.size w3 w7 := below_later hby hbx
        refine ⟨_, rfl, hbz, ?_⟩
        rw [HK.out]
        clear hbx hby
        refine env_yes HSZ H3.out ?_ (fun w' hS => ?_) ?_
        rotate_left
        · go_simp
          rfl
        refine env_end ?_
        have hfr := HFR.out
        clear HFR HSZ H0 H1 H2 H3 x_5
        subst hfr
        simp only [putAll, Act.put, List.setIfInBounds_toArray, List.set_cons_succ, List.set_cons_zero]
        clear y0 x0 f0 y1 x1 f1 y2 x2 f2 y3 x3 f3 hlt0
        have K0n := Aside.mk (K0.out.below hbz)
        have K1n := Aside.mk (K1.out.below hbz)
        have B1n := Aside.mk (below_later B1.out hbz)
        clear K0 K1 B1
        have K0 := K0n
        have K1 := K1n
        have B1 := B1n
        clear K0n K1n B1n
        clear hbz
        have y0 : w7.cell? ⟨w.heap.size, 0, none⟩ = some (.int .i64 a.kind) := K0.out.cell 0
        have y1 : w7.cell? ⟨w.heap.size, 1, none⟩ = some (.int .i64 a.num) := K0.out.cell 1
        have y2 : w7.cell? ⟨w.heap.size, 2, none⟩ = some (.string a.str) := K0.out.cell 2
        have y3 : w7.cell? ⟨w.heap.size, 3, none⟩ = some (.slice A a.kids.length c) := K0.out.cell 3
        have x0 : w7.cell? ⟨w.heap.size + 1, 0, none⟩ = some (.int .i64 0) := K1.out.cell 0
        have x1 : w7.cell? ⟨w.heap.size + 1, 1, none⟩ = some (.int .i64 0) := K1.out.cell 1
        have x2 : w7.cell? ⟨w.heap.size + 1, 2, none⟩ = some (.string ⟨#[]⟩) := K1.out.cell 2
        have x3 : w7.cell? ⟨w.heap.size + 1, 3, none⟩ = some (.slice none 0 0) := K1.out.cell 3
        have f0 := K1.out.free 0
        have f1 := K1.out.free 1
        have f2 := K1.out.free 2
        have f3 := K1.out.free 3
        go_wp2_with fail
        refine (copyTerm a [.int .i64 a.kind, .int .i64 a.num, .string a.str, .slice A a.kids.length c] _ (Rec.term.old H.out B1.out) (by omega)).mono ?_
        rintro e w5 ⟨cs2, rfl, hr5, hbx⟩
        obtain ⟨v0, v1, v2, v3a, v3b, v3c, rfl⟩ := shapeTerm hr5
        have hs5 : w.heap.size + 2 ≤ w7.heap.size := K1.out.lt
        have HR5 := Aside.mk hr5
        clear y0 x0 f0 y1 x1 f1 y2 x2 f2 y3 x3 f3
        have K0n := Aside.mk (K0.out.below hbx)
        have K1n := Aside.mk (K1.out.below hbx)
        have B1n := Aside.mk (below_later B1.out hbx)
        clear K0 K1 B1
        have K0 := K0n
        have K1 := K1n
        have B1 := B1n
        clear K0n K1n B1n
        clear hr5 hbx
        have y0 : w5.cell? ⟨w.heap.size, 0, none⟩ = some (.int .i64 a.kind) := K0.out.cell 0
        have y1 : w5.cell? ⟨w.heap.size, 1, none⟩ = some (.int .i64 a.num) := K0.out.cell 1
        have y2 : w5.cell? ⟨w.heap.size, 2, none⟩ = some (.string a.str) := K0.out.cell 2
        have y3 : w5.cell? ⟨w.heap.size, 3, none⟩ = some (.slice A a.kids.length c) := K0.out.cell 3
        have x0 : w5.cell? ⟨w.heap.size + 1, 0, none⟩ = some (.int .i64 0) := K1.out.cell 0
        have x1 : w5.cell? ⟨w.heap.size + 1, 1, none⟩ = some (.int .i64 0) := K1.out.cell 1
        have x2 : w5.cell? ⟨w.heap.size + 1, 2, none⟩ = some (.string ⟨#[]⟩) := K1.out.cell 2
        have x3 : w5.cell? ⟨w.heap.size + 1, 3, none⟩ = some (.slice none 0 0) := K1.out.cell 3
        have f0 := K1.out.free 0
        have f1 := K1.out.free 1
        have f2 := K1.out.free 2
        have f3 := K1.out.free 3
        go_wp2_with fail
        have k1 := K1.out
        have bel := B1.out
        rw [E.out]
        refine bodyPost_ret (res_tct rfl _ _ (w.heap.size + 1) 29 [.int .i64 v0, .int .i64 v1, .string v2, .slice v3a v3b v3c] _ rfl ?k_7 Try.underlying29 rfl (by kernel_rfl)) rfl ⟨_, rfl, ?r_7, ?b_7⟩
        case k_7 => exact ((((k1.set 0 _).set 1 _).set 2 _).set 3 _)
        case b_7 => go_grown
        case r_7 => exact Rec.term.mono (Rec.term.over HR5.out (fun b h1 h2 => by rw [heap_far (by omega)]; rw [heap_far (by omega)]; rw [heap_far (by omega)]; rw [heap_far (by omega)])) (fun b h => by have h1 := h.1; have h2 := h.2; simp [Span]; omega)
      · have HK := Aside.mk hk
        have E : Aside (res = (0, noT, 0)) := ⟨by rw [HV3.out, hk]; rfl⟩
        clear hk HV3
        have y0 : w3.cell? ⟨w.heap.size, 0, none⟩ = some (.int .i64 a.kind) := K0.out.cell 0
        have y1 : w3.cell? ⟨w.heap.size, 1, none⟩ = some (.int .i64 a.num) := K0.out.cell 1
        have y2 : w3.cell? ⟨w.heap.size, 2, none⟩ = some (.string a.str) := K0.out.cell 2
        have y3 : w3.cell? ⟨w.heap.size, 3, none⟩ = some (.slice A a.kids.length c) := K0.out.cell 3
        have x0 : w3.cell? ⟨w.heap.size + 1, 0, none⟩ = some (.int .i64 0) := K1.out.cell 0
        have x1 : w3.cell? ⟨w.heap.size + 1, 1, none⟩ = some (.int .i64 0) := K1.out.cell 1
        have x2 : w3.cell? ⟨w.heap.size + 1, 2, none⟩ = some (.string ⟨#[]⟩) := K1.out.cell 2
        have x3 : w3.cell? ⟨w.heap.size + 1, 3, none⟩ = some (.slice none 0 0) := K1.out.cell 3
        have f0 := K1.out.free 0
        have f1 := K1.out.free 1
        have f2 := K1.out.free 2
        have f3 := K1.out.free 3
        have hlt0 : w.heap.size < w3.heap.size := K0.out.lt
        go_wp2_with fail
        refine region_env [(0, true), (1, false), (2, false), (3, true)] (fun w' => Below w3.heap.size w3 w') 32 rfl (by kernel_rfl) (by kernel_rfl) (fun _ _ d _ _ h => by cases d <;> exact h) ((Below.refl _ _).drew) (fun ops fr HFR HSZ hl => ?_)
        have hl_0 := ops_start hl
        clear hl
        obtain ⟨H0, hl_1⟩ := ops_next 0 1 rfl hl_0
        clear hl_0
        obtain ⟨H1, hl_2⟩ := ops_next 1 2 rfl hl_1
        clear hl_1
        obtain ⟨H2, hl_3⟩ := ops_next 2 3 rfl hl_2
        clear hl_2
        obtain ⟨H3, hl_4⟩ := ops_next 3 4 rfl hl_3
        clear hl_3
        clear hl_4
        have x_5 : ext fr 5 = _ := congrArg (fun a => Act.eval a (.tmp 5)) HFR.out
        conv at x_5 => rhs; simp only [Act.eval, Array.getD_eq_getD_getElem?, List.getElem?_toArray, List.getElem?_cons_succ, List.getElem?_cons_zero, Option.getD_some]
        refine env_yes HSZ H0.out ?_ (fun w' hS => ?_) ?_
        rotate_left
        · have h0 := (hS.cell (p := ⟨w.heap.size, 0, none⟩) hlt0).trans y0
          have h1 := (hS.cell (p := ⟨w.heap.size, 1, none⟩) hlt0).trans y1
          have h2 := (hS.cell (p := ⟨w.heap.size, 2, none⟩) hlt0).trans y2
          have h3 := (hS.cell (p := ⟨w.heap.size, 3, none⟩) hlt0).trans y3
          go_simp
          rfl
        refine env_call HSZ H1.out ?_ ?_ ?_ ?_
        rotate_left 2
        · go_simp
          first | rfl | (constructor <;> rfl)
        refine (atom ⟨#[110, 111, 114, 109, 97, 108]⟩ _).mono ?_
        rintro e w6 ⟨rfl, hbx⟩
        have hby : Below w3.heap.size w3 w6 := below_later (Below.refl _ _).drew hbx
        refine ⟨_, rfl, hby, ?_⟩
        clear hbx
        refine env_call HSZ H2.out ?_ ?_ ?_ ?_
        rotate_left 2
        · go_simp
          first | rfl | (constructor <;> rfl)
        refine (same a normalT [.int .i64 a.kind, .int .i64 a.num, .string a.str, .slice A a.kids.length c] [.int .i64 2, .int .i64 0, .string ⟨#[110, 111, 114, 109, 97, 108]⟩, .slice none 0 0] _ (Rec.term.old H.out (below_later B1.out hby)) (atomT_rd _ _ _ _) hw normal_wt HKR.out normal_ok).mono ?_
        rintro e w7 ⟨rfl, hbx⟩
        have hbz : Below w3.heap.size w3 w7 := below_later hby hbx
        refine ⟨_, rfl, hbz, ?_⟩
        rw [HK.out]
        clear hbx hby
        refine env_yes HSZ H3.out ?_ (fun w' hS => ?_) ?_
        rotate_left
        · go_simp
          rfl
        refine env_end ?_
        have hfr := HFR.out
        clear HFR HSZ H0 H1 H2 H3 x_5
        subst hfr
        simp only [putAll, Act.put, List.setIfInBounds_toArray, List.set_cons_succ, List.set_cons_zero]
        clear y0 x0 f0 y1 x1 f1 y2 x2 f2 y3 x3 f3 hlt0
        have K0n := Aside.mk (K0.out.below hbz)
        have K1n := Aside.mk (K1.out.below hbz)
        have B1n := Aside.mk (below_later B1.out hbz)
        clear K0 K1 B1
        have K0 := K0n
        have K1 := K1n
        have B1 := B1n
        clear K0n K1n B1n
        clear hbz
        have y0 : w7.cell? ⟨w.heap.size, 0, none⟩ = some (.int .i64 a.kind) := K0.out.cell 0
        have y1 : w7.cell? ⟨w.heap.size, 1, none⟩ = some (.int .i64 a.num) := K0.out.cell 1
        have y2 : w7.cell? ⟨w.heap.size, 2, none⟩ = some (.string a.str) := K0.out.cell 2
        have y3 : w7.cell? ⟨w.heap.size, 3, none⟩ = some (.slice A a.kids.length c) := K0.out.cell 3
        have x0 : w7.cell? ⟨w.heap.size + 1, 0, none⟩ = some (.int .i64 0) := K1.out.cell 0
        have x1 : w7.cell? ⟨w.heap.size + 1, 1, none⟩ = some (.int .i64 0) := K1.out.cell 1
        have x2 : w7.cell? ⟨w.heap.size + 1, 2, none⟩ = some (.string ⟨#[]⟩) := K1.out.cell 2
        have x3 : w7.cell? ⟨w.heap.size + 1, 3, none⟩ = some (.slice none 0 0) := K1.out.cell 3
        have f0 := K1.out.free 0
        have f1 := K1.out.free 1
        have f2 := K1.out.free 2
        have f3 := K1.out.free 3
        go_wp2_with fail
        have k1 := K1.out
        have bel := B1.out
        rw [E.out]
        refine bodyPost_ret (res_tct rfl _ _ (w.heap.size + 1) 29 [.int .i64 0, .int .i64 0, .string ⟨#[]⟩, .slice none 0 0] _ rfl ?k_8 Try.underlying29 rfl (by kernel_rfl)) rfl ⟨_, rfl, ?r_8, ?b_8⟩
        case k_8 => exact (((((k1).set 0 _).set 1 _).set 2 _).set 3 _)
        case b_8 => go_grown
        case r_8 => exact noT_rd _ _ _
set_option maxRecDepth 100000 in
set_option maxHeartbeats 4000000 in
theorem sSignal (trap link : Bool) (a : T) (cs : List Value) (w : World) (h : Rec.term.rd False w (Old w) a cs) (hw : Rec.term.wt a ≤ 1048576) :
    Calls Try.prog 35 #[.bool trap, .bool link, .agg cs.toArray] w (Ret3 w (sigR trap link a)) := by
  obtain ⟨A, c, rfl, -⟩ := Rec.term_iff.1 (id h)
  have H := Aside.mk h
  clear h
  obtain ⟨res, hres⟩ : ∃ r, r = sigR trap link a := ⟨_, rfl⟩
  rw [← hres]
  have HV := Aside.mk hres
  clear hres
  show Calls Try.prog 35 #[.bool trap, .bool link, .agg #[.int .i64 a.kind, .int .i64 a.num, .string a.str, .slice A a.kids.length c]] w _
  go_enter Try.func35, Try.ntmps35
  go_wp2_with fail
  refine (sTermOK a [.int .i64 a.kind, .int .i64 a.num, .string a.str, .slice A a.kids.length c] _ (Rec.term.old H.out (by go_grown)) hw).mono ?_
  rintro e w1 ⟨rfl, hb1⟩
  have K0 := Aside.mk (((Blk.new w 29 [.int .i64 a.kind, .int .i64 a.num, .string a.str, .slice A a.kids.length c]).alloc _).below hb1)
  have K1 := Aside.mk ((Blk.made (w.alloc _) 29 [.int .i64 0, .int .i64 0, .string ⟨#[]⟩, .slice none 0 0] (g := w.heap.size + 1) (by simp)).below hb1)
  have B1 : Aside (Below w.heap.size w w1) := ⟨below_later (by go_grown) hb1⟩
  clear hb1
  cases ho : a.okB
  · have E : Aside (res = (0, noT, 1)) := ⟨by rw [HV.out, sigR, ho]; rfl⟩
    clear HV ho
    have y0 : w1.cell? ⟨w.heap.size, 0, none⟩ = some (.int .i64 a.kind) := K0.out.cell 0
    have y1 : w1.cell? ⟨w.heap.size, 1, none⟩ = some (.int .i64 a.num) := K0.out.cell 1
    have y2 : w1.cell? ⟨w.heap.size, 2, none⟩ = some (.string a.str) := K0.out.cell 2
    have y3 : w1.cell? ⟨w.heap.size, 3, none⟩ = some (.slice A a.kids.length c) := K0.out.cell 3
    have x0 : w1.cell? ⟨w.heap.size + 1, 0, none⟩ = some (.int .i64 0) := K1.out.cell 0
    have x1 : w1.cell? ⟨w.heap.size + 1, 1, none⟩ = some (.int .i64 0) := K1.out.cell 1
    have x2 : w1.cell? ⟨w.heap.size + 1, 2, none⟩ = some (.string ⟨#[]⟩) := K1.out.cell 2
    have x3 : w1.cell? ⟨w.heap.size + 1, 3, none⟩ = some (.slice none 0 0) := K1.out.cell 3
    have f0 := K1.out.free 0
    have f1 := K1.out.free 1
    have f2 := K1.out.free 2
    have f3 := K1.out.free 3
    go_wp2_with fail
    have k1 := K1.out
    have bel := B1.out
    rw [E.out]
    refine bodyPost_ret (res_tct rfl _ _ (w.heap.size + 1) 29 [.int .i64 0, .int .i64 0, .string ⟨#[]⟩, .slice none 0 0] _ rfl ?k_9 Try.underlying29 rfl (by kernel_rfl)) rfl ⟨_, rfl, ?r_9, ?b_9⟩
    case k_9 => exact (((((k1).set 0 _).set 1 _).set 2 _).set 3 _)
    case b_9 => go_grown
    case r_9 => exact noT_rd _ _ _
  have HKR := Aside.mk (okB_right ho)
  have HV2 : Aside (res = if sameB a killT && !link then (2, killedT, 0) else if trap then (1, noT, 0) else if sameB a normalT then (0, noT, 0) else (2, a, 0)) := ⟨by rw [HV.out, sigR, if_pos ho]⟩
  clear HV ho
  cases link
  rotate_left
  · skip
    have y0 : w1.cell? ⟨w.heap.size, 0, none⟩ = some (.int .i64 a.kind) := K0.out.cell 0
    have y1 : w1.cell? ⟨w.heap.size, 1, none⟩ = some (.int .i64 a.num) := K0.out.cell 1
    have y2 : w1.cell? ⟨w.heap.size, 2, none⟩ = some (.string a.str) := K0.out.cell 2
    have y3 : w1.cell? ⟨w.heap.size, 3, none⟩ = some (.slice A a.kids.length c) := K0.out.cell 3
    have x0 : w1.cell? ⟨w.heap.size + 1, 0, none⟩ = some (.int .i64 0) := K1.out.cell 0
    have x1 : w1.cell? ⟨w.heap.size + 1, 1, none⟩ = some (.int .i64 0) := K1.out.cell 1
    have x2 : w1.cell? ⟨w.heap.size + 1, 2, none⟩ = some (.string ⟨#[]⟩) := K1.out.cell 2
    have x3 : w1.cell? ⟨w.heap.size + 1, 3, none⟩ = some (.slice none 0 0) := K1.out.cell 3
    have f0 := K1.out.free 0
    have f1 := K1.out.free 1
    have f2 := K1.out.free 2
    have f3 := K1.out.free 3
    go_wp2_with fail
    refine region_env [(0, true), (1, true), (2, true), (3, true), (4, true), (5, true), (6, true), (7, true)] (fun w' => Below w1.heap.size w1 w') 32 rfl (by kernel_rfl) (by kernel_rfl) (fun _ _ d _ _ h => by cases d <;> exact h) ((Below.refl _ _).drew) (fun ops fr HFR HSZ hl => ?_)
    have hl_0 := ops_start hl
    clear hl
    obtain ⟨H0, hl_1⟩ := ops_next 0 1 rfl hl_0
    clear hl_0
    obtain ⟨H1, hl_2⟩ := ops_next 1 2 rfl hl_1
    clear hl_1
    obtain ⟨H2, hl_3⟩ := ops_next 2 3 rfl hl_2
    clear hl_2
    obtain ⟨H3, hl_4⟩ := ops_next 3 4 rfl hl_3
    clear hl_3
    obtain ⟨H4, hl_5⟩ := ops_next 4 5 rfl hl_4
    clear hl_4
    obtain ⟨H5, hl_6⟩ := ops_next 5 6 rfl hl_5
    clear hl_5
    obtain ⟨H6, hl_7⟩ := ops_next 6 7 rfl hl_6
    clear hl_6
    obtain ⟨H7, hl_8⟩ := ops_next 7 8 rfl hl_7
    clear hl_7
    clear hl_8
    have x_1 : ext fr 1 = _ := congrArg (fun a => Act.eval a (.tmp 1)) HFR.out
    conv at x_1 => rhs; simp only [Act.eval, Array.getD_eq_getD_getElem?, List.getElem?_toArray, List.getElem?_cons_succ, List.getElem?_cons_zero, Option.getD_some]
    refine env_yes HSZ H0.out ?_ (fun w' hS => ?_) ?_
    rotate_left
    · go_simp
      rfl
    refine env_yes HSZ H1.out ?_ (fun w' hS => ?_) ?_
    rotate_left
    · go_simp
      rfl
    refine env_yes HSZ H2.out ?_ (fun w' hS => ?_) ?_
    rotate_left
    · go_simp
      rfl
    refine env_off HSZ H3.out H2.out (by first | rfl | go_simp) ?_
    refine env_off HSZ H4.out H2.out (by first | rfl | go_simp) ?_
    refine env_off HSZ H5.out H2.out (by first | rfl | go_simp) ?_
    refine env_yes HSZ H6.out ?_ (fun w' hS => ?_) ?_
    rotate_left
    · go_simp
      rfl
    refine env_yes HSZ H7.out ?_ (fun w' hS => ?_) ?_
    rotate_left
    · go_simp
      rfl
    refine env_end ?_
    have hfr := HFR.out
    clear HFR HSZ H0 H1 H2 H3 H4 H5 H6 H7 x_1
    subst hfr
    simp only [putAll, Act.put, List.setIfInBounds_toArray, List.set_cons_succ, List.set_cons_zero]
    clear y0 x0 f0 y1 x1 f1 y2 x2 f2 y3 x3 f3
    have K0 := Aside.mk K0.out.drew
    have K1 := Aside.mk K1.out.drew
    have B1 := Aside.mk B1.out.drew
    have HV3 : Aside (res = if trap then (1, noT, 0) else if sameB a normalT then (0, noT, 0) else (2, a, 0)) := ⟨by rw [HV2.out]; simp⟩
    clear HV2
    generalize hwd : w1.drew = w1d at K0 K1 B1 ⊢
    clear hwd
    cases trap
    rotate_left
    · have E : Aside (res = (1, noT, 0)) := ⟨by rw [HV3.out]; rfl⟩
      clear HV3
      have y0 : w1d.cell? ⟨w.heap.size, 0, none⟩ = some (.int .i64 a.kind) := K0.out.cell 0
      have y1 : w1d.cell? ⟨w.heap.size, 1, none⟩ = some (.int .i64 a.num) := K0.out.cell 1
      have y2 : w1d.cell? ⟨w.heap.size, 2, none⟩ = some (.string a.str) := K0.out.cell 2
      have y3 : w1d.cell? ⟨w.heap.size, 3, none⟩ = some (.slice A a.kids.length c) := K0.out.cell 3
      have x0 : w1d.cell? ⟨w.heap.size + 1, 0, none⟩ = some (.int .i64 0) := K1.out.cell 0
      have x1 : w1d.cell? ⟨w.heap.size + 1, 1, none⟩ = some (.int .i64 0) := K1.out.cell 1
      have x2 : w1d.cell? ⟨w.heap.size + 1, 2, none⟩ = some (.string ⟨#[]⟩) := K1.out.cell 2
      have x3 : w1d.cell? ⟨w.heap.size + 1, 3, none⟩ = some (.slice none 0 0) := K1.out.cell 3
      have f0 := K1.out.free 0
      have f1 := K1.out.free 1
      have f2 := K1.out.free 2
      have f3 := K1.out.free 3
      go_wp2_with fail
      have k1 := K1.out
      have bel := B1.out
      rw [E.out]
      refine bodyPost_ret (res_tct rfl _ _ (w.heap.size + 1) 29 [.int .i64 0, .int .i64 0, .string ⟨#[]⟩, .slice none 0 0] _ rfl ?k_10 Try.underlying29 rfl (by kernel_rfl)) rfl ⟨_, rfl, ?r_10, ?b_10⟩
      case k_10 => exact (((((k1).set 0 _).set 1 _).set 2 _).set 3 _)
      case b_10 => go_grown
      case r_10 => exact noT_rd _ _ _
    cases hk : sameB a normalT
    · have HK := Aside.mk hk
      have E : Aside (res = (2, a, 0)) := ⟨by rw [HV3.out, hk]; rfl⟩
      clear hk HV3
      have y0 : w1d.cell? ⟨w.heap.size, 0, none⟩ = some (.int .i64 a.kind) := K0.out.cell 0
      have y1 : w1d.cell? ⟨w.heap.size, 1, none⟩ = some (.int .i64 a.num) := K0.out.cell 1
      have y2 : w1d.cell? ⟨w.heap.size, 2, none⟩ = some (.string a.str) := K0.out.cell 2
      have y3 : w1d.cell? ⟨w.heap.size, 3, none⟩ = some (.slice A a.kids.length c) := K0.out.cell 3
      have x0 : w1d.cell? ⟨w.heap.size + 1, 0, none⟩ = some (.int .i64 0) := K1.out.cell 0
      have x1 : w1d.cell? ⟨w.heap.size + 1, 1, none⟩ = some (.int .i64 0) := K1.out.cell 1
      have x2 : w1d.cell? ⟨w.heap.size + 1, 2, none⟩ = some (.string ⟨#[]⟩) := K1.out.cell 2
      have x3 : w1d.cell? ⟨w.heap.size + 1, 3, none⟩ = some (.slice none 0 0) := K1.out.cell 3
      have f0 := K1.out.free 0
      have f1 := K1.out.free 1
      have f2 := K1.out.free 2
      have f3 := K1.out.free 3
      have hlt0 : w.heap.size < w1d.heap.size := K0.out.lt
      go_wp2_with fail
      refine region_env [(0, true), (1, false), (2, false), (3, true)] (fun w' => Below w1d.heap.size w1d w') 32 rfl (by kernel_rfl) (by kernel_rfl) (fun _ _ d _ _ h => by cases d <;> exact h) ((Below.refl _ _).drew) (fun ops fr HFR HSZ hl => ?_)
      have hl_0 := ops_start hl
      clear hl
      obtain ⟨H0, hl_1⟩ := ops_next 0 1 rfl hl_0
      clear hl_0
      obtain ⟨H1, hl_2⟩ := ops_next 1 2 rfl hl_1
      clear hl_1
      obtain ⟨H2, hl_3⟩ := ops_next 2 3 rfl hl_2
      clear hl_2
      obtain ⟨H3, hl_4⟩ := ops_next 3 4 rfl hl_3
      clear hl_3
      clear hl_4
      have x_5 : ext fr 5 = _ := congrArg (fun a => Act.eval a (.tmp 5)) HFR.out
      conv at x_5 => rhs; simp only [Act.eval, Array.getD_eq_getD_getElem?, List.getElem?_toArray, List.getElem?_cons_succ, List.getElem?_cons_zero, Option.getD_some]
      refine env_yes HSZ H0.out ?_ (fun w' hS => ?_) ?_
      rotate_left
      · have h0 := (hS.cell (p := ⟨w.heap.size, 0, none⟩) hlt0).trans y0
        have h1 := (hS.cell (p := ⟨w.heap.size, 1, none⟩) hlt0).trans y1
        have h2 := (hS.cell (p := ⟨w.heap.size, 2, none⟩) hlt0).trans y2
        have h3 := (hS.cell (p := ⟨w.heap.size, 3, none⟩) hlt0).trans y3
        go_simp
        rfl
      refine env_call HSZ H1.out ?_ ?_ ?_ ?_
      rotate_left 2
      · go_simp
        first | rfl | (constructor <;> rfl)
      refine (l01Atom ⟨#[110, 111, 114, 109, 97, 108]⟩ _).mono ?_
      rintro e w6 ⟨rfl, hbx⟩
      have hby : Below w1d.heap.size w1d w6 := below_later (Below.refl _ _).drew hbx
      refine ⟨_, rfl, hby, ?_⟩
      clear hbx
      refine env_call HSZ H2.out ?_ ?_ ?_ ?_
      rotate_left 2
      · go_simp
        first | rfl | (constructor <;> rfl)
      refine (l04Same a normalT [.int .i64 a.kind, .int .i64 a.num, .string a.str, .slice A a.kids.length c] [.int .i64 2, .int .i64 0, .string ⟨#[110, 111, 114, 109, 97, 108]⟩, .slice none 0 0] _ (Rec.term.old H.out (below_later B1.out hby)) (atomT_rd _ _ _ _) hw normal_wt).mono ?_
      rintro e w7 ⟨rfl, hbx⟩
      have hbz : Below w1d.heap.size w1d w7 := below_later hby hbx
      refine ⟨_, rfl, hbz, ?_⟩
      rw [HK.out]
      clear hbx hby
      refine env_yes HSZ H3.out ?_ (fun w' hS => ?_) ?_
      rotate_left
      · go_simp
        rfl
      refine env_end ?_
      have hfr := HFR.out
      clear HFR HSZ H0 H1 H2 H3 x_5
      subst hfr
      simp only [putAll, Act.put, List.setIfInBounds_toArray, List.set_cons_succ, List.set_cons_zero]
      clear y0 x0 f0 y1 x1 f1 y2 x2 f2 y3 x3 f3 hlt0
      have K0n := Aside.mk (K0.out.below hbz)
      have K1n := Aside.mk (K1.out.below hbz)
      have B1n := Aside.mk (below_later B1.out hbz)
      clear K0 K1 B1
      have K0 := K0n
      have K1 := K1n
      have B1 := B1n
      clear K0n K1n B1n
      clear hbz
      have y0 : w7.cell? ⟨w.heap.size, 0, none⟩ = some (.int .i64 a.kind) := K0.out.cell 0
      have y1 : w7.cell? ⟨w.heap.size, 1, none⟩ = some (.int .i64 a.num) := K0.out.cell 1
      have y2 : w7.cell? ⟨w.heap.size, 2, none⟩ = some (.string a.str) := K0.out.cell 2
      have y3 : w7.cell? ⟨w.heap.size, 3, none⟩ = some (.slice A a.kids.length c) := K0.out.cell 3
      have x0 : w7.cell? ⟨w.heap.size + 1, 0, none⟩ = some (.int .i64 0) := K1.out.cell 0
      have x1 : w7.cell? ⟨w.heap.size + 1, 1, none⟩ = some (.int .i64 0) := K1.out.cell 1
      have x2 : w7.cell? ⟨w.heap.size + 1, 2, none⟩ = some (.string ⟨#[]⟩) := K1.out.cell 2
      have x3 : w7.cell? ⟨w.heap.size + 1, 3, none⟩ = some (.slice none 0 0) := K1.out.cell 3
      have f0 := K1.out.free 0
      have f1 := K1.out.free 1
      have f2 := K1.out.free 2
      have f3 := K1.out.free 3
      go_wp2_with fail
      refine (l01Copy a [.int .i64 a.kind, .int .i64 a.num, .string a.str, .slice A a.kids.length c] _ (Rec.term.old H.out B1.out) (by omega)).mono ?_
      rintro e w5 ⟨cs2, rfl, hr5, hbx⟩
      obtain ⟨v0, v1, v2, v3a, v3b, v3c, rfl⟩ := shapeTerm hr5
      have hs5 : w.heap.size + 2 ≤ w7.heap.size := K1.out.lt
      have HR5 := Aside.mk hr5
      clear y0 x0 f0 y1 x1 f1 y2 x2 f2 y3 x3 f3
      have K0n := Aside.mk (K0.out.below hbx)
      have K1n := Aside.mk (K1.out.below hbx)
      have B1n := Aside.mk (below_later B1.out hbx)
      clear K0 K1 B1
      have K0 := K0n
      have K1 := K1n
      have B1 := B1n
      clear K0n K1n B1n
      clear hr5 hbx
      have y0 : w5.cell? ⟨w.heap.size, 0, none⟩ = some (.int .i64 a.kind) := K0.out.cell 0
      have y1 : w5.cell? ⟨w.heap.size, 1, none⟩ = some (.int .i64 a.num) := K0.out.cell 1
      have y2 : w5.cell? ⟨w.heap.size, 2, none⟩ = some (.string a.str) := K0.out.cell 2
      have y3 : w5.cell? ⟨w.heap.size, 3, none⟩ = some (.slice A a.kids.length c) := K0.out.cell 3
      have x0 : w5.cell? ⟨w.heap.size + 1, 0, none⟩ = some (.int .i64 0) := K1.out.cell 0
      have x1 : w5.cell? ⟨w.heap.size + 1, 1, none⟩ = some (.int .i64 0) := K1.out.cell 1
      have x2 : w5.cell? ⟨w.heap.size + 1, 2, none⟩ = some (.string ⟨#[]⟩) := K1.out.cell 2
      have x3 : w5.cell? ⟨w.heap.size + 1, 3, none⟩ = some (.slice none 0 0) := K1.out.cell 3
      have f0 := K1.out.free 0
      have f1 := K1.out.free 1
      have f2 := K1.out.free 2
      have f3 := K1.out.free 3
      go_wp2_with fail
      have k1 := K1.out
      have bel := B1.out
      rw [E.out]
      refine bodyPost_ret (res_tct rfl _ _ (w.heap.size + 1) 29 [.int .i64 v0, .int .i64 v1, .string v2, .slice v3a v3b v3c] _ rfl ?k_11 Try.underlying29 rfl (by kernel_rfl)) rfl ⟨_, rfl, ?r_11, ?b_11⟩
      case k_11 => exact ((((k1.set 0 _).set 1 _).set 2 _).set 3 _)
      case b_11 => go_grown
      case r_11 => exact Rec.term.mono (Rec.term.over HR5.out (fun b h1 h2 => by rw [heap_far (by omega)]; rw [heap_far (by omega)]; rw [heap_far (by omega)]; rw [heap_far (by omega)])) (fun b h => by have h1 := h.1; have h2 := h.2; simp [Span]; omega)
    · have HK := Aside.mk hk
      have E : Aside (res = (0, noT, 0)) := ⟨by rw [HV3.out, hk]; rfl⟩
      clear hk HV3
      have y0 : w1d.cell? ⟨w.heap.size, 0, none⟩ = some (.int .i64 a.kind) := K0.out.cell 0
      have y1 : w1d.cell? ⟨w.heap.size, 1, none⟩ = some (.int .i64 a.num) := K0.out.cell 1
      have y2 : w1d.cell? ⟨w.heap.size, 2, none⟩ = some (.string a.str) := K0.out.cell 2
      have y3 : w1d.cell? ⟨w.heap.size, 3, none⟩ = some (.slice A a.kids.length c) := K0.out.cell 3
      have x0 : w1d.cell? ⟨w.heap.size + 1, 0, none⟩ = some (.int .i64 0) := K1.out.cell 0
      have x1 : w1d.cell? ⟨w.heap.size + 1, 1, none⟩ = some (.int .i64 0) := K1.out.cell 1
      have x2 : w1d.cell? ⟨w.heap.size + 1, 2, none⟩ = some (.string ⟨#[]⟩) := K1.out.cell 2
      have x3 : w1d.cell? ⟨w.heap.size + 1, 3, none⟩ = some (.slice none 0 0) := K1.out.cell 3
      have f0 := K1.out.free 0
      have f1 := K1.out.free 1
      have f2 := K1.out.free 2
      have f3 := K1.out.free 3
      have hlt0 : w.heap.size < w1d.heap.size := K0.out.lt
      go_wp2_with fail
      refine region_env [(0, true), (1, false), (2, false), (3, true)] (fun w' => Below w1d.heap.size w1d w') 32 rfl (by kernel_rfl) (by kernel_rfl) (fun _ _ d _ _ h => by cases d <;> exact h) ((Below.refl _ _).drew) (fun ops fr HFR HSZ hl => ?_)
      have hl_0 := ops_start hl
      clear hl
      obtain ⟨H0, hl_1⟩ := ops_next 0 1 rfl hl_0
      clear hl_0
      obtain ⟨H1, hl_2⟩ := ops_next 1 2 rfl hl_1
      clear hl_1
      obtain ⟨H2, hl_3⟩ := ops_next 2 3 rfl hl_2
      clear hl_2
      obtain ⟨H3, hl_4⟩ := ops_next 3 4 rfl hl_3
      clear hl_3
      clear hl_4
      have x_5 : ext fr 5 = _ := congrArg (fun a => Act.eval a (.tmp 5)) HFR.out
      conv at x_5 => rhs; simp only [Act.eval, Array.getD_eq_getD_getElem?, List.getElem?_toArray, List.getElem?_cons_succ, List.getElem?_cons_zero, Option.getD_some]
      refine env_yes HSZ H0.out ?_ (fun w' hS => ?_) ?_
      rotate_left
      · have h0 := (hS.cell (p := ⟨w.heap.size, 0, none⟩) hlt0).trans y0
        have h1 := (hS.cell (p := ⟨w.heap.size, 1, none⟩) hlt0).trans y1
        have h2 := (hS.cell (p := ⟨w.heap.size, 2, none⟩) hlt0).trans y2
        have h3 := (hS.cell (p := ⟨w.heap.size, 3, none⟩) hlt0).trans y3
        go_simp
        rfl
      refine env_call HSZ H1.out ?_ ?_ ?_ ?_
      rotate_left 2
      · go_simp
        first | rfl | (constructor <;> rfl)
      refine (l01Atom ⟨#[110, 111, 114, 109, 97, 108]⟩ _).mono ?_
      rintro e w6 ⟨rfl, hbx⟩
      have hby : Below w1d.heap.size w1d w6 := below_later (Below.refl _ _).drew hbx
      refine ⟨_, rfl, hby, ?_⟩
      clear hbx
      refine env_call HSZ H2.out ?_ ?_ ?_ ?_
      rotate_left 2
      · go_simp
        first | rfl | (constructor <;> rfl)
      refine (l04Same a normalT [.int .i64 a.kind, .int .i64 a.num, .string a.str, .slice A a.kids.length c] [.int .i64 2, .int .i64 0, .string ⟨#[110, 111, 114, 109, 97, 108]⟩, .slice none 0 0] _ (Rec.term.old H.out (below_later B1.out hby)) (atomT_rd _ _ _ _) hw normal_wt).mono ?_
      rintro e w7 ⟨rfl, hbx⟩
      have hbz : Below w1d.heap.size w1d w7 := below_later hby hbx
      refine ⟨_, rfl, hbz, ?_⟩
      rw [HK.out]
      clear hbx hby
      refine env_yes HSZ H3.out ?_ (fun w' hS => ?_) ?_
      rotate_left
      · go_simp
        rfl
      refine env_end ?_
      have hfr := HFR.out
      clear HFR HSZ H0 H1 H2 H3 x_5
      subst hfr
      simp only [putAll, Act.put, List.setIfInBounds_toArray, List.set_cons_succ, List.set_cons_zero]
      clear y0 x0 f0 y1 x1 f1 y2 x2 f2 y3 x3 f3 hlt0
      have K0n := Aside.mk (K0.out.below hbz)
      have K1n := Aside.mk (K1.out.below hbz)
      have B1n := Aside.mk (below_later B1.out hbz)
      clear K0 K1 B1
      have K0 := K0n
      have K1 := K1n
      have B1 := B1n
      clear K0n K1n B1n
      clear hbz
      have y0 : w7.cell? ⟨w.heap.size, 0, none⟩ = some (.int .i64 a.kind) := K0.out.cell 0
      have y1 : w7.cell? ⟨w.heap.size, 1, none⟩ = some (.int .i64 a.num) := K0.out.cell 1
      have y2 : w7.cell? ⟨w.heap.size, 2, none⟩ = some (.string a.str) := K0.out.cell 2
      have y3 : w7.cell? ⟨w.heap.size, 3, none⟩ = some (.slice A a.kids.length c) := K0.out.cell 3
      have x0 : w7.cell? ⟨w.heap.size + 1, 0, none⟩ = some (.int .i64 0) := K1.out.cell 0
      have x1 : w7.cell? ⟨w.heap.size + 1, 1, none⟩ = some (.int .i64 0) := K1.out.cell 1
      have x2 : w7.cell? ⟨w.heap.size + 1, 2, none⟩ = some (.string ⟨#[]⟩) := K1.out.cell 2
      have x3 : w7.cell? ⟨w.heap.size + 1, 3, none⟩ = some (.slice none 0 0) := K1.out.cell 3
      have f0 := K1.out.free 0
      have f1 := K1.out.free 1
      have f2 := K1.out.free 2
      have f3 := K1.out.free 3
      go_wp2_with fail
      have k1 := K1.out
      have bel := B1.out
      rw [E.out]
      refine bodyPost_ret (res_tct rfl _ _ (w.heap.size + 1) 29 [.int .i64 0, .int .i64 0, .string ⟨#[]⟩, .slice none 0 0] _ rfl ?k_12 Try.underlying29 rfl (by kernel_rfl)) rfl ⟨_, rfl, ?r_12, ?b_12⟩
      case k_12 => exact (((((k1).set 0 _).set 1 _).set 2 _).set 3 _)
      case b_12 => go_grown
      case r_12 => exact noT_rd _ _ _
  cases hk : sameB a killT
  · have HK := Aside.mk hk
    have y0 : w1.cell? ⟨w.heap.size, 0, none⟩ = some (.int .i64 a.kind) := K0.out.cell 0
    have y1 : w1.cell? ⟨w.heap.size, 1, none⟩ = some (.int .i64 a.num) := K0.out.cell 1
    have y2 : w1.cell? ⟨w.heap.size, 2, none⟩ = some (.string a.str) := K0.out.cell 2
    have y3 : w1.cell? ⟨w.heap.size, 3, none⟩ = some (.slice A a.kids.length c) := K0.out.cell 3
    have x0 : w1.cell? ⟨w.heap.size + 1, 0, none⟩ = some (.int .i64 0) := K1.out.cell 0
    have x1 : w1.cell? ⟨w.heap.size + 1, 1, none⟩ = some (.int .i64 0) := K1.out.cell 1
    have x2 : w1.cell? ⟨w.heap.size + 1, 2, none⟩ = some (.string ⟨#[]⟩) := K1.out.cell 2
    have x3 : w1.cell? ⟨w.heap.size + 1, 3, none⟩ = some (.slice none 0 0) := K1.out.cell 3
    have f0 := K1.out.free 0
    have f1 := K1.out.free 1
    have f2 := K1.out.free 2
    have f3 := K1.out.free 3
    have hlt0 : w.heap.size < w1.heap.size := K0.out.lt
    clear hk
    go_wp2_with fail
    refine region_env [(0, true), (1, true), (2, true), (3, true), (4, false), (5, false), (6, true), (7, true)] (fun w' => Below w1.heap.size w1 w') 32 rfl (by kernel_rfl) (by kernel_rfl) (fun _ _ d _ _ h => by cases d <;> exact h) ((Below.refl _ _).drew) (fun ops fr HFR HSZ hl => ?_)
    have hl_0 := ops_start hl
    clear hl
    obtain ⟨H0, hl_1⟩ := ops_next 0 1 rfl hl_0
    clear hl_0
    obtain ⟨H1, hl_2⟩ := ops_next 1 2 rfl hl_1
    clear hl_1
    obtain ⟨H2, hl_3⟩ := ops_next 2 3 rfl hl_2
    clear hl_2
    obtain ⟨H3, hl_4⟩ := ops_next 3 4 rfl hl_3
    clear hl_3
    obtain ⟨H4, hl_5⟩ := ops_next 4 5 rfl hl_4
    clear hl_4
    obtain ⟨H5, hl_6⟩ := ops_next 5 6 rfl hl_5
    clear hl_5
    obtain ⟨H6, hl_7⟩ := ops_next 6 7 rfl hl_6
    clear hl_6
    obtain ⟨H7, hl_8⟩ := ops_next 7 8 rfl hl_7
    clear hl_7
    clear hl_8
    have x_1 : ext fr 1 = _ := congrArg (fun a => Act.eval a (.tmp 1)) HFR.out
    conv at x_1 => rhs; simp only [Act.eval, Array.getD_eq_getD_getElem?, List.getElem?_toArray, List.getElem?_cons_succ, List.getElem?_cons_zero, Option.getD_some]
    have x_5 : ext fr 5 = _ := congrArg (fun a => Act.eval a (.tmp 5)) HFR.out
    conv at x_5 => rhs; simp only [Act.eval, Array.getD_eq_getD_getElem?, List.getElem?_toArray, List.getElem?_cons_succ, List.getElem?_cons_zero, Option.getD_some]
    refine env_yes HSZ H0.out ?_ (fun w' hS => ?_) ?_
    rotate_left
    · go_simp
      rfl
    refine env_yes HSZ H1.out ?_ (fun w' hS => ?_) ?_
    rotate_left
    · go_simp
      rfl
    refine env_yes HSZ H2.out ?_ (fun w' hS => ?_) ?_
    rotate_left
    · go_simp
      rfl
    refine env_on HSZ H3.out H2.out (by first | rfl | go_simp) ?_ (fun w' hS => ?_) ?_
    rotate_left
    · have h0 := (hS.cell (p := ⟨w.heap.size, 0, none⟩) hlt0).trans y0
      have h1 := (hS.cell (p := ⟨w.heap.size, 1, none⟩) hlt0).trans y1
      have h2 := (hS.cell (p := ⟨w.heap.size, 2, none⟩) hlt0).trans y2
      have h3 := (hS.cell (p := ⟨w.heap.size, 3, none⟩) hlt0).trans y3
      go_simp
      rfl
    refine env_call_on HSZ H4.out H2.out (by first | rfl | go_simp) ?_ ?_ ?_ ?_
    rotate_left 2
    · go_simp
      first | rfl | (constructor <;> rfl)
    refine (l01Atom ⟨#[107, 105, 108, 108]⟩ _).mono ?_
    rintro e w2 ⟨rfl, hbx⟩
    have hby : Below w1.heap.size w1 w2 := below_later (Below.refl _ _).drew hbx
    refine ⟨_, rfl, hby, ?_⟩
    clear hbx
    refine env_call_on HSZ H5.out H2.out (by first | rfl | go_simp) ?_ ?_ ?_ ?_
    rotate_left 2
    · go_simp
      first | rfl | (constructor <;> rfl)
    refine (l04Same a killT [.int .i64 a.kind, .int .i64 a.num, .string a.str, .slice A a.kids.length c] [.int .i64 2, .int .i64 0, .string ⟨#[107, 105, 108, 108]⟩, .slice none 0 0] _ (Rec.term.old H.out (below_later B1.out hby)) (atomT_rd _ _ _ _) hw kill_wt).mono ?_
    rintro e w3 ⟨rfl, hbx⟩
    have hbz : Below w1.heap.size w1 w3 := below_later hby hbx
    refine ⟨_, rfl, hbz, ?_⟩
    rw [HK.out]
    clear hbx hby
    refine env_yes HSZ H6.out ?_ (fun w' hS => ?_) ?_
    rotate_left
    · go_simp
      rfl
    refine env_yes HSZ H7.out ?_ (fun w' hS => ?_) ?_
    rotate_left
    · go_simp
      rfl
    refine env_end ?_
    have hfr := HFR.out
    clear HFR HSZ H0 H1 H2 H3 H4 H5 H6 H7 x_1 x_5
    subst hfr
    simp only [putAll, Act.put, List.setIfInBounds_toArray, List.set_cons_succ, List.set_cons_zero]
    clear y0 x0 f0 y1 x1 f1 y2 x2 f2 y3 x3 f3 hlt0
    have K0n := Aside.mk (K0.out.below hbz)
    have K1n := Aside.mk (K1.out.below hbz)
    have B1n := Aside.mk (below_later B1.out hbz)
    clear K0 K1 B1
    have K0 := K0n
    have K1 := K1n
    have B1 := B1n
    clear K0n K1n B1n
    clear hbz
    have HV3 : Aside (res = if trap then (1, noT, 0) else if sameB a normalT then (0, noT, 0) else (2, a, 0)) := ⟨by rw [HV2.out, HK.out]; rfl⟩
    clear HV2 HK
    cases trap
    rotate_left
    · have E : Aside (res = (1, noT, 0)) := ⟨by rw [HV3.out]; rfl⟩
      clear HV3
      have y0 : w3.cell? ⟨w.heap.size, 0, none⟩ = some (.int .i64 a.kind) := K0.out.cell 0
      have y1 : w3.cell? ⟨w.heap.size, 1, none⟩ = some (.int .i64 a.num) := K0.out.cell 1
      have y2 : w3.cell? ⟨w.heap.size, 2, none⟩ = some (.string a.str) := K0.out.cell 2
      have y3 : w3.cell? ⟨w.heap.size, 3, none⟩ = some (.slice A a.kids.length c) := K0.out.cell 3
      have x0 : w3.cell? ⟨w.heap.size + 1, 0, none⟩ = some (.int .i64 0) := K1.out.cell 0
      have x1 : w3.cell? ⟨w.heap.size + 1, 1, none⟩ = some (.int .i64 0) := K1.out.cell 1
      have x2 : w3.cell? ⟨w.heap.size + 1, 2, none⟩ = some (.string ⟨#[]⟩) := K1.out.cell 2
      have x3 : w3.cell? ⟨w.heap.size + 1, 3, none⟩ = some (.slice none 0 0) := K1.out.cell 3
      have f0 := K1.out.free 0
      have f1 := K1.out.free 1
      have f2 := K1.out.free 2
      have f3 := K1.out.free 3
      go_wp2_with fail
      have k1 := K1.out
      have bel := B1.out
      rw [E.out]
      refine bodyPost_ret (res_tct rfl _ _ (w.heap.size + 1) 29 [.int .i64 0, .int .i64 0, .string ⟨#[]⟩, .slice none 0 0] _ rfl ?k_13 Try.underlying29 rfl (by kernel_rfl)) rfl ⟨_, rfl, ?r_13, ?b_13⟩
      case k_13 => exact (((((k1).set 0 _).set 1 _).set 2 _).set 3 _)
      case b_13 => go_grown
      case r_13 => exact noT_rd _ _ _
    cases hk : sameB a normalT
    · have HK := Aside.mk hk
      have E : Aside (res = (2, a, 0)) := ⟨by rw [HV3.out, hk]; rfl⟩
      clear hk HV3
      have y0 : w3.cell? ⟨w.heap.size, 0, none⟩ = some (.int .i64 a.kind) := K0.out.cell 0
      have y1 : w3.cell? ⟨w.heap.size, 1, none⟩ = some (.int .i64 a.num) := K0.out.cell 1
      have y2 : w3.cell? ⟨w.heap.size, 2, none⟩ = some (.string a.str) := K0.out.cell 2
      have y3 : w3.cell? ⟨w.heap.size, 3, none⟩ = some (.slice A a.kids.length c) := K0.out.cell 3
      have x0 : w3.cell? ⟨w.heap.size + 1, 0, none⟩ = some (.int .i64 0) := K1.out.cell 0
      have x1 : w3.cell? ⟨w.heap.size + 1, 1, none⟩ = some (.int .i64 0) := K1.out.cell 1
      have x2 : w3.cell? ⟨w.heap.size + 1, 2, none⟩ = some (.string ⟨#[]⟩) := K1.out.cell 2
      have x3 : w3.cell? ⟨w.heap.size + 1, 3, none⟩ = some (.slice none 0 0) := K1.out.cell 3
      have f0 := K1.out.free 0
      have f1 := K1.out.free 1
      have f2 := K1.out.free 2
      have f3 := K1.out.free 3
      have hlt0 : w.heap.size < w3.heap.size := K0.out.lt
      go_wp2_with fail
      refine region_env [(0, true), (1, false), (2, false), (3, true)] (fun w' => Below w3.heap.size w3 w') 32 rfl (by kernel_rfl) (by kernel_rfl) (fun _ _ d _ _ h => by cases d <;> exact h) ((Below.refl _ _).drew) (fun ops fr HFR HSZ hl => ?_)
      have hl_0 := ops_start hl
      clear hl
      obtain ⟨H0, hl_1⟩ := ops_next 0 1 rfl hl_0
      clear hl_0
      obtain ⟨H1, hl_2⟩ := ops_next 1 2 rfl hl_1
      clear hl_1
      obtain ⟨H2, hl_3⟩ := ops_next 2 3 rfl hl_2
      clear hl_2
      obtain ⟨H3, hl_4⟩ := ops_next 3 4 rfl hl_3
      clear hl_3
      clear hl_4
      have x_5 : ext fr 5 = _ := congrArg (fun a => Act.eval a (.tmp 5)) HFR.out
      conv at x_5 => rhs; simp only [Act.eval, Array.getD_eq_getD_getElem?, List.getElem?_toArray, List.getElem?_cons_succ, List.getElem?_cons_zero, Option.getD_some]
      refine env_yes HSZ H0.out ?_ (fun w' hS => ?_) ?_
      rotate_left
      · have h0 := (hS.cell (p := ⟨w.heap.size, 0, none⟩) hlt0).trans y0
        have h1 := (hS.cell (p := ⟨w.heap.size, 1, none⟩) hlt0).trans y1
        have h2 := (hS.cell (p := ⟨w.heap.size, 2, none⟩) hlt0).trans y2
        have h3 := (hS.cell (p := ⟨w.heap.size, 3, none⟩) hlt0).trans y3
        go_simp
        rfl
      refine env_call HSZ H1.out ?_ ?_ ?_ ?_
      rotate_left 2
      · go_simp
        first | rfl | (constructor <;> rfl)
      refine (l01Atom ⟨#[110, 111, 114, 109, 97, 108]⟩ _).mono ?_
      rintro e w6 ⟨rfl, hbx⟩
      have hby : Below w3.heap.size w3 w6 := below_later (Below.refl _ _).drew hbx
      refine ⟨_, rfl, hby, ?_⟩
      clear hbx
      refine env_call HSZ H2.out ?_ ?_ ?_ ?_
      rotate_left 2
      · go_simp
        first | rfl | (constructor <;> rfl)
      refine (l04Same a normalT [.int .i64 a.kind, .int .i64 a.num, .string a.str, .slice A a.kids.length c] [.int .i64 2, .int .i64 0, .string ⟨#[110, 111, 114, 109, 97, 108]⟩, .slice none 0 0] _ (Rec.term.old H.out (below_later B1.out hby)) (atomT_rd _ _ _ _) hw normal_wt).mono ?_
      rintro e w7 ⟨rfl, hbx⟩
      have hbz : Below w3.heap.size w3 w7 := below_later hby hbx
      refine ⟨_, rfl, hbz, ?_⟩
      rw [HK.out]
      clear hbx hby
      refine env_yes HSZ H3.out ?_ (fun w' hS => ?_) ?_
      rotate_left
      · go_simp
        rfl
      refine env_end ?_
      have hfr := HFR.out
      clear HFR HSZ H0 H1 H2 H3 x_5
      subst hfr
      simp only [putAll, Act.put, List.setIfInBounds_toArray, List.set_cons_succ, List.set_cons_zero]
      clear y0 x0 f0 y1 x1 f1 y2 x2 f2 y3 x3 f3 hlt0
      have K0n := Aside.mk (K0.out.below hbz)
      have K1n := Aside.mk (K1.out.below hbz)
      have B1n := Aside.mk (below_later B1.out hbz)
      clear K0 K1 B1
      have K0 := K0n
      have K1 := K1n
      have B1 := B1n
      clear K0n K1n B1n
      clear hbz
      have y0 : w7.cell? ⟨w.heap.size, 0, none⟩ = some (.int .i64 a.kind) := K0.out.cell 0
      have y1 : w7.cell? ⟨w.heap.size, 1, none⟩ = some (.int .i64 a.num) := K0.out.cell 1
      have y2 : w7.cell? ⟨w.heap.size, 2, none⟩ = some (.string a.str) := K0.out.cell 2
      have y3 : w7.cell? ⟨w.heap.size, 3, none⟩ = some (.slice A a.kids.length c) := K0.out.cell 3
      have x0 : w7.cell? ⟨w.heap.size + 1, 0, none⟩ = some (.int .i64 0) := K1.out.cell 0
      have x1 : w7.cell? ⟨w.heap.size + 1, 1, none⟩ = some (.int .i64 0) := K1.out.cell 1
      have x2 : w7.cell? ⟨w.heap.size + 1, 2, none⟩ = some (.string ⟨#[]⟩) := K1.out.cell 2
      have x3 : w7.cell? ⟨w.heap.size + 1, 3, none⟩ = some (.slice none 0 0) := K1.out.cell 3
      have f0 := K1.out.free 0
      have f1 := K1.out.free 1
      have f2 := K1.out.free 2
      have f3 := K1.out.free 3
      go_wp2_with fail
      refine (l01Copy a [.int .i64 a.kind, .int .i64 a.num, .string a.str, .slice A a.kids.length c] _ (Rec.term.old H.out B1.out) (by omega)).mono ?_
      rintro e w5 ⟨cs2, rfl, hr5, hbx⟩
      obtain ⟨v0, v1, v2, v3a, v3b, v3c, rfl⟩ := shapeTerm hr5
      have hs5 : w.heap.size + 2 ≤ w7.heap.size := K1.out.lt
      have HR5 := Aside.mk hr5
      clear y0 x0 f0 y1 x1 f1 y2 x2 f2 y3 x3 f3
      have K0n := Aside.mk (K0.out.below hbx)
      have K1n := Aside.mk (K1.out.below hbx)
      have B1n := Aside.mk (below_later B1.out hbx)
      clear K0 K1 B1
      have K0 := K0n
      have K1 := K1n
      have B1 := B1n
      clear K0n K1n B1n
      clear hr5 hbx
      have y0 : w5.cell? ⟨w.heap.size, 0, none⟩ = some (.int .i64 a.kind) := K0.out.cell 0
      have y1 : w5.cell? ⟨w.heap.size, 1, none⟩ = some (.int .i64 a.num) := K0.out.cell 1
      have y2 : w5.cell? ⟨w.heap.size, 2, none⟩ = some (.string a.str) := K0.out.cell 2
      have y3 : w5.cell? ⟨w.heap.size, 3, none⟩ = some (.slice A a.kids.length c) := K0.out.cell 3
      have x0 : w5.cell? ⟨w.heap.size + 1, 0, none⟩ = some (.int .i64 0) := K1.out.cell 0
      have x1 : w5.cell? ⟨w.heap.size + 1, 1, none⟩ = some (.int .i64 0) := K1.out.cell 1
      have x2 : w5.cell? ⟨w.heap.size + 1, 2, none⟩ = some (.string ⟨#[]⟩) := K1.out.cell 2
      have x3 : w5.cell? ⟨w.heap.size + 1, 3, none⟩ = some (.slice none 0 0) := K1.out.cell 3
      have f0 := K1.out.free 0
      have f1 := K1.out.free 1
      have f2 := K1.out.free 2
      have f3 := K1.out.free 3
      go_wp2_with fail
      have k1 := K1.out
      have bel := B1.out
      rw [E.out]
      refine bodyPost_ret (res_tct rfl _ _ (w.heap.size + 1) 29 [.int .i64 v0, .int .i64 v1, .string v2, .slice v3a v3b v3c] _ rfl ?k_14 Try.underlying29 rfl (by kernel_rfl)) rfl ⟨_, rfl, ?r_14, ?b_14⟩
      case k_14 => exact ((((k1.set 0 _).set 1 _).set 2 _).set 3 _)
      case b_14 => go_grown
      case r_14 => exact Rec.term.mono (Rec.term.over HR5.out (fun b h1 h2 => by rw [heap_far (by omega)]; rw [heap_far (by omega)]; rw [heap_far (by omega)]; rw [heap_far (by omega)])) (fun b h => by have h1 := h.1; have h2 := h.2; simp [Span]; omega)
    · have HK := Aside.mk hk
      have E : Aside (res = (0, noT, 0)) := ⟨by rw [HV3.out, hk]; rfl⟩
      clear hk HV3
      have y0 : w3.cell? ⟨w.heap.size, 0, none⟩ = some (.int .i64 a.kind) := K0.out.cell 0
      have y1 : w3.cell? ⟨w.heap.size, 1, none⟩ = some (.int .i64 a.num) := K0.out.cell 1
      have y2 : w3.cell? ⟨w.heap.size, 2, none⟩ = some (.string a.str) := K0.out.cell 2
      have y3 : w3.cell? ⟨w.heap.size, 3, none⟩ = some (.slice A a.kids.length c) := K0.out.cell 3
      have x0 : w3.cell? ⟨w.heap.size + 1, 0, none⟩ = some (.int .i64 0) := K1.out.cell 0
      have x1 : w3.cell? ⟨w.heap.size + 1, 1, none⟩ = some (.int .i64 0) := K1.out.cell 1
      have x2 : w3.cell? ⟨w.heap.size + 1, 2, none⟩ = some (.string ⟨#[]⟩) := K1.out.cell 2
      have x3 : w3.cell? ⟨w.heap.size + 1, 3, none⟩ = some (.slice none 0 0) := K1.out.cell 3
      have f0 := K1.out.free 0
      have f1 := K1.out.free 1
      have f2 := K1.out.free 2
      have f3 := K1.out.free 3
      have hlt0 : w.heap.size < w3.heap.size := K0.out.lt
      go_wp2_with fail
      refine region_env [(0, true), (1, false), (2, false), (3, true)] (fun w' => Below w3.heap.size w3 w') 32 rfl (by kernel_rfl) (by kernel_rfl) (fun _ _ d _ _ h => by cases d <;> exact h) ((Below.refl _ _).drew) (fun ops fr HFR HSZ hl => ?_)
      have hl_0 := ops_start hl
      clear hl
      obtain ⟨H0, hl_1⟩ := ops_next 0 1 rfl hl_0
      clear hl_0
      obtain ⟨H1, hl_2⟩ := ops_next 1 2 rfl hl_1
      clear hl_1
      obtain ⟨H2, hl_3⟩ := ops_next 2 3 rfl hl_2
      clear hl_2
      obtain ⟨H3, hl_4⟩ := ops_next 3 4 rfl hl_3
      clear hl_3
      clear hl_4
      have x_5 : ext fr 5 = _ := congrArg (fun a => Act.eval a (.tmp 5)) HFR.out
      conv at x_5 => rhs; simp only [Act.eval, Array.getD_eq_getD_getElem?, List.getElem?_toArray, List.getElem?_cons_succ, List.getElem?_cons_zero, Option.getD_some]
      refine env_yes HSZ H0.out ?_ (fun w' hS => ?_) ?_
      rotate_left
      · have h0 := (hS.cell (p := ⟨w.heap.size, 0, none⟩) hlt0).trans y0
        have h1 := (hS.cell (p := ⟨w.heap.size, 1, none⟩) hlt0).trans y1
        have h2 := (hS.cell (p := ⟨w.heap.size, 2, none⟩) hlt0).trans y2
        have h3 := (hS.cell (p := ⟨w.heap.size, 3, none⟩) hlt0).trans y3
        go_simp
        rfl
      refine env_call HSZ H1.out ?_ ?_ ?_ ?_
      rotate_left 2
      · go_simp
        first | rfl | (constructor <;> rfl)
      refine (l01Atom ⟨#[110, 111, 114, 109, 97, 108]⟩ _).mono ?_
      rintro e w6 ⟨rfl, hbx⟩
      have hby : Below w3.heap.size w3 w6 := below_later (Below.refl _ _).drew hbx
      refine ⟨_, rfl, hby, ?_⟩
      clear hbx
      refine env_call HSZ H2.out ?_ ?_ ?_ ?_
      rotate_left 2
      · go_simp
        first | rfl | (constructor <;> rfl)
      refine (l04Same a normalT [.int .i64 a.kind, .int .i64 a.num, .string a.str, .slice A a.kids.length c] [.int .i64 2, .int .i64 0, .string ⟨#[110, 111, 114, 109, 97, 108]⟩, .slice none 0 0] _ (Rec.term.old H.out (below_later B1.out hby)) (atomT_rd _ _ _ _) hw normal_wt).mono ?_
      rintro e w7 ⟨rfl, hbx⟩
      have hbz : Below w3.heap.size w3 w7 := below_later hby hbx
      refine ⟨_, rfl, hbz, ?_⟩
      rw [HK.out]
      clear hbx hby
      refine env_yes HSZ H3.out ?_ (fun w' hS => ?_) ?_
      rotate_left
      · go_simp
        rfl
      refine env_end ?_
      have hfr := HFR.out
      clear HFR HSZ H0 H1 H2 H3 x_5
      subst hfr
      simp only [putAll, Act.put, List.setIfInBounds_toArray, List.set_cons_succ, List.set_cons_zero]
      clear y0 x0 f0 y1 x1 f1 y2 x2 f2 y3 x3 f3 hlt0
      have K0n := Aside.mk (K0.out.below hbz)
      have K1n := Aside.mk (K1.out.below hbz)
      have B1n := Aside.mk (below_later B1.out hbz)
      clear K0 K1 B1
      have K0 := K0n
      have K1 := K1n
      have B1 := B1n
      clear K0n K1n B1n
      clear hbz
      have y0 : w7.cell? ⟨w.heap.size, 0, none⟩ = some (.int .i64 a.kind) := K0.out.cell 0
      have y1 : w7.cell? ⟨w.heap.size, 1, none⟩ = some (.int .i64 a.num) := K0.out.cell 1
      have y2 : w7.cell? ⟨w.heap.size, 2, none⟩ = some (.string a.str) := K0.out.cell 2
      have y3 : w7.cell? ⟨w.heap.size, 3, none⟩ = some (.slice A a.kids.length c) := K0.out.cell 3
      have x0 : w7.cell? ⟨w.heap.size + 1, 0, none⟩ = some (.int .i64 0) := K1.out.cell 0
      have x1 : w7.cell? ⟨w.heap.size + 1, 1, none⟩ = some (.int .i64 0) := K1.out.cell 1
      have x2 : w7.cell? ⟨w.heap.size + 1, 2, none⟩ = some (.string ⟨#[]⟩) := K1.out.cell 2
      have x3 : w7.cell? ⟨w.heap.size + 1, 3, none⟩ = some (.slice none 0 0) := K1.out.cell 3
      have f0 := K1.out.free 0
      have f1 := K1.out.free 1
      have f2 := K1.out.free 2
      have f3 := K1.out.free 3
      go_wp2_with fail
      have k1 := K1.out
      have bel := B1.out
      rw [E.out]
      refine bodyPost_ret (res_tct rfl _ _ (w.heap.size + 1) 29 [.int .i64 0, .int .i64 0, .string ⟨#[]⟩, .slice none 0 0] _ rfl ?k_15 Try.underlying29 rfl (by kernel_rfl)) rfl ⟨_, rfl, ?r_15, ?b_15⟩
      case k_15 => exact (((((k1).set 0 _).set 1 _).set 2 _).set 3 _)
      case b_15 => go_grown
      case r_15 => exact noT_rd _ _ _
  · have HK := Aside.mk hk
    have y0 : w1.cell? ⟨w.heap.size, 0, none⟩ = some (.int .i64 a.kind) := K0.out.cell 0
    have y1 : w1.cell? ⟨w.heap.size, 1, none⟩ = some (.int .i64 a.num) := K0.out.cell 1
    have y2 : w1.cell? ⟨w.heap.size, 2, none⟩ = some (.string a.str) := K0.out.cell 2
    have y3 : w1.cell? ⟨w.heap.size, 3, none⟩ = some (.slice A a.kids.length c) := K0.out.cell 3
    have x0 : w1.cell? ⟨w.heap.size + 1, 0, none⟩ = some (.int .i64 0) := K1.out.cell 0
    have x1 : w1.cell? ⟨w.heap.size + 1, 1, none⟩ = some (.int .i64 0) := K1.out.cell 1
    have x2 : w1.cell? ⟨w.heap.size + 1, 2, none⟩ = some (.string ⟨#[]⟩) := K1.out.cell 2
    have x3 : w1.cell? ⟨w.heap.size + 1, 3, none⟩ = some (.slice none 0 0) := K1.out.cell 3
    have f0 := K1.out.free 0
    have f1 := K1.out.free 1
    have f2 := K1.out.free 2
    have f3 := K1.out.free 3
    have hlt0 : w.heap.size < w1.heap.size := K0.out.lt
    clear hk
    go_wp2_with fail
    refine region_env [(0, true), (1, true), (2, true), (3, true), (4, false), (5, false), (6, true), (7, true)] (fun w' => Below w1.heap.size w1 w') 32 rfl (by kernel_rfl) (by kernel_rfl) (fun _ _ d _ _ h => by cases d <;> exact h) ((Below.refl _ _).drew) (fun ops fr HFR HSZ hl => ?_)
    have hl_0 := ops_start hl
    clear hl
    obtain ⟨H0, hl_1⟩ := ops_next 0 1 rfl hl_0
    clear hl_0
    obtain ⟨H1, hl_2⟩ := ops_next 1 2 rfl hl_1
    clear hl_1
    obtain ⟨H2, hl_3⟩ := ops_next 2 3 rfl hl_2
    clear hl_2
    obtain ⟨H3, hl_4⟩ := ops_next 3 4 rfl hl_3
    clear hl_3
    obtain ⟨H4, hl_5⟩ := ops_next 4 5 rfl hl_4
    clear hl_4
    obtain ⟨H5, hl_6⟩ := ops_next 5 6 rfl hl_5
    clear hl_5
    obtain ⟨H6, hl_7⟩ := ops_next 6 7 rfl hl_6
    clear hl_6
    obtain ⟨H7, hl_8⟩ := ops_next 7 8 rfl hl_7
    clear hl_7
    clear hl_8
    have x_1 : ext fr 1 = _ := congrArg (fun a => Act.eval a (.tmp 1)) HFR.out
    conv at x_1 => rhs; simp only [Act.eval, Array.getD_eq_getD_getElem?, List.getElem?_toArray, List.getElem?_cons_succ, List.getElem?_cons_zero, Option.getD_some]
    have x_5 : ext fr 5 = _ := congrArg (fun a => Act.eval a (.tmp 5)) HFR.out
    conv at x_5 => rhs; simp only [Act.eval, Array.getD_eq_getD_getElem?, List.getElem?_toArray, List.getElem?_cons_succ, List.getElem?_cons_zero, Option.getD_some]
    refine env_yes HSZ H0.out ?_ (fun w' hS => ?_) ?_
    rotate_left
    · go_simp
      rfl
    refine env_yes HSZ H1.out ?_ (fun w' hS => ?_) ?_
    rotate_left
    · go_simp
      rfl
    refine env_yes HSZ H2.out ?_ (fun w' hS => ?_) ?_
    rotate_left
    · go_simp
      rfl
    refine env_on HSZ H3.out H2.out (by first | rfl | go_simp) ?_ (fun w' hS => ?_) ?_
    rotate_left
    · have h0 := (hS.cell (p := ⟨w.heap.size, 0, none⟩) hlt0).trans y0
      have h1 := (hS.cell (p := ⟨w.heap.size, 1, none⟩) hlt0).trans y1
      have h2 := (hS.cell (p := ⟨w.heap.size, 2, none⟩) hlt0).trans y2
      have h3 := (hS.cell (p := ⟨w.heap.size, 3, none⟩) hlt0).trans y3
      go_simp
      rfl
    refine env_call_on HSZ H4.out H2.out (by first | rfl | go_simp) ?_ ?_ ?_ ?_
    rotate_left 2
    · go_simp
      first | rfl | (constructor <;> rfl)
    refine (l01Atom ⟨#[107, 105, 108, 108]⟩ _).mono ?_
    rintro e w2 ⟨rfl, hbx⟩
    have hby : Below w1.heap.size w1 w2 := below_later (Below.refl _ _).drew hbx
    refine ⟨_, rfl, hby, ?_⟩
    clear hbx
    refine env_call_on HSZ H5.out H2.out (by first | rfl | go_simp) ?_ ?_ ?_ ?_
    rotate_left 2
    · go_simp
      first | rfl | (constructor <;> rfl)
    refine (l04Same a killT [.int .i64 a.kind, .int .i64 a.num, .string a.str, .slice A a.kids.length c] [.int .i64 2, .int .i64 0, .string ⟨#[107, 105, 108, 108]⟩, .slice none 0 0] _ (Rec.term.old H.out (below_later B1.out hby)) (atomT_rd _ _ _ _) hw kill_wt).mono ?_
    rintro e w3 ⟨rfl, hbx⟩
    have hbz : Below w1.heap.size w1 w3 := below_later hby hbx
    refine ⟨_, rfl, hbz, ?_⟩
    rw [HK.out]
    clear hbx hby
    refine env_yes HSZ H6.out ?_ (fun w' hS => ?_) ?_
    rotate_left
    · go_simp
      rfl
    refine env_yes HSZ H7.out ?_ (fun w' hS => ?_) ?_
    rotate_left
    · go_simp
      rfl
    refine env_end ?_
    have hfr := HFR.out
    clear HFR HSZ H0 H1 H2 H3 H4 H5 H6 H7 x_1 x_5
    subst hfr
    simp only [putAll, Act.put, List.setIfInBounds_toArray, List.set_cons_succ, List.set_cons_zero]
    clear y0 x0 f0 y1 x1 f1 y2 x2 f2 y3 x3 f3 hlt0
    have K0n := Aside.mk (K0.out.below hbz)
    have K1n := Aside.mk (K1.out.below hbz)
    have B1n := Aside.mk (below_later B1.out hbz)
    clear K0 K1 B1
    have K0 := K0n
    have K1 := K1n
    have B1 := B1n
    clear K0n K1n B1n
    clear hbz
    have y0 : w3.cell? ⟨w.heap.size, 0, none⟩ = some (.int .i64 a.kind) := K0.out.cell 0
    have y1 : w3.cell? ⟨w.heap.size, 1, none⟩ = some (.int .i64 a.num) := K0.out.cell 1
    have y2 : w3.cell? ⟨w.heap.size, 2, none⟩ = some (.string a.str) := K0.out.cell 2
    have y3 : w3.cell? ⟨w.heap.size, 3, none⟩ = some (.slice A a.kids.length c) := K0.out.cell 3
    have x0 : w3.cell? ⟨w.heap.size + 1, 0, none⟩ = some (.int .i64 0) := K1.out.cell 0
    have x1 : w3.cell? ⟨w.heap.size + 1, 1, none⟩ = some (.int .i64 0) := K1.out.cell 1
    have x2 : w3.cell? ⟨w.heap.size + 1, 2, none⟩ = some (.string ⟨#[]⟩) := K1.out.cell 2
    have x3 : w3.cell? ⟨w.heap.size + 1, 3, none⟩ = some (.slice none 0 0) := K1.out.cell 3
    have f0 := K1.out.free 0
    have f1 := K1.out.free 1
    have f2 := K1.out.free 2
    have f3 := K1.out.free 3
    have E : Aside (res = (2, killedT, 0)) := ⟨by rw [HV2.out]; simp [HK.out]⟩
    clear HV2
    go_wp2_with fail
    refine (l01Atom ⟨#[107, 105, 108, 108, 101, 100]⟩ _).mono ?_
    rintro e w4 ⟨rfl, hbx⟩
    have K0n := Aside.mk (K0.out.below hbx)
    have K1n := Aside.mk (K1.out.below hbx)
    have B1n := Aside.mk (below_later B1.out hbx)
    clear K0 K1 B1
    have K0 := K0n
    have K1 := K1n
    have B1 := B1n
    clear K0n K1n B1n
    clear hbx
    have y0 : w4.cell? ⟨w.heap.size, 0, none⟩ = some (.int .i64 a.kind) := K0.out.cell 0
    have y1 : w4.cell? ⟨w.heap.size, 1, none⟩ = some (.int .i64 a.num) := K0.out.cell 1
    have y2 : w4.cell? ⟨w.heap.size, 2, none⟩ = some (.string a.str) := K0.out.cell 2
    have y3 : w4.cell? ⟨w.heap.size, 3, none⟩ = some (.slice A a.kids.length c) := K0.out.cell 3
    have x0 : w4.cell? ⟨w.heap.size + 1, 0, none⟩ = some (.int .i64 0) := K1.out.cell 0
    have x1 : w4.cell? ⟨w.heap.size + 1, 1, none⟩ = some (.int .i64 0) := K1.out.cell 1
    have x2 : w4.cell? ⟨w.heap.size + 1, 2, none⟩ = some (.string ⟨#[]⟩) := K1.out.cell 2
    have x3 : w4.cell? ⟨w.heap.size + 1, 3, none⟩ = some (.slice none 0 0) := K1.out.cell 3
    have f0 := K1.out.free 0
    have f1 := K1.out.free 1
    have f2 := K1.out.free 2
    have f3 := K1.out.free 3
    go_wp2_with fail
    have k1 := K1.out
    have bel := B1.out
    rw [E.out]
    refine bodyPost_ret (res_tct rfl _ _ (w.heap.size + 1) 29 [.int .i64 2, .int .i64 0, .string ⟨#[107, 105, 108, 108, 101, 100]⟩, .slice none 0 0] _ rfl ?k_16 Try.underlying29 rfl (by kernel_rfl)) rfl ⟨_, rfl, ?r_16, ?b_16⟩
    case k_16 => exact (((((k1).set 0 _).set 1 _).set 2 _).set 3 _)
    case b_16 => go_grown
    case r_16 => exact atomT_rd _ _ _ _
end Go.Proofs.Ytdcmoilajplfdaa.Fn

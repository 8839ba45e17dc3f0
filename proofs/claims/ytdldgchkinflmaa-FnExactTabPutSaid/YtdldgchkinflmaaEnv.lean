/- Plans over named operations, the frame apart: what the region has put into slots stands in a list ahead of the frame as it was. Conditions: those of each theorem. -/
import Derived.Test.YtdldgchkinflmaaPlanG
set_option linter.unusedVariables false
namespace Go.Proofs.Ytdldgchkinflmaa.Plan
open Go Go.RowKit Go.Proofs.Ytdldgchkinflmaa.Lib
variable {P : Program} {ops : Array Oper} {Q : Exit → Act → World → Prop} {S : World → Prop}

theorem cell_lt {w : World} {b o : Nat} {v : Value} (h : w.cell? ⟨b, o, none⟩ = some v) : b < w.heap.size := by
  unfold World.cell? at h
  cases e : w.heap[b]? with
  | none => rw [e] at h; cases h
  | some _ => exact (Array.getElem?_eq_some_iff.1 e).1
/-- Results: a word, a struct in memory, a word. -/
theorem res_tct {fn : Func} {p t1 t2 : Tmp} {ty : TypeId} (h : fn.results = #[.tmp t1, .cell p ty, .tmp t2]) (tmps : Array Value) (w : World) (g : Nat) (T : TypeId) (cs : List Value) (d : TypeDesc) (hp : tmps.getD p undef = .pointer (some ⟨g, 0, none⟩))
    (hg : Blk w g T cs) (hu : P.underlying ty = some d) (hd : (match d with | .struct _ | .array _ _ => true | _ => false) = true) (hi : (P.info? ty).map (·.size) = some cs.length) :
    (results fn tmps).run P w = .ok (.tuple #[tmps.getD t1 undef, .agg cs.toArray, tmps.getD t2 undef]) w := by
  have hp' : tmps[p]?.getD undef = .pointer (some ⟨g, 0, none⟩) := by simpa using hp
  simp [results, h, hp', asAddr, load_blk hg ty d hu hd hi]
def ext (a : Act) (t : Nat) : Value := a.eval (.tmp t)
def lookT (N : Nat) (a : Act) : List (Nat × Value) → Nat → Value
  | [], t => ext a t
  | (d, v) :: us, t => if t = d ∧ d < N then v else lookT N a us t
def look (N : Nat) (a : Act) (us : List (Nat × Value)) : Operand → Value
  | .tmp t => lookT N a us t
  | .const v => v
  | .global g => .pointer (some ⟨g, 0, none⟩)
  | .func f => .func (.func f) #[] #[]
theorem look_tmp (N : Nat) (a : Act) (us : List (Nat × Value)) (t : Nat) : look N a us (.tmp t) = lookT N a us t := rfl
theorem look_const (N : Nat) (a : Act) (us : List (Nat × Value)) (v : Value) : look N a us (.const v) = v := rfl
theorem look_func (N : Nat) (a : Act) (us : List (Nat × Value)) (f : FuncId) : look N a us (.func f) = .func (.func f) #[] #[] := rfl
theorem look_global (N : Nat) (a : Act) (us : List (Nat × Value)) (g : Nat) : look N a us (.global g) = .pointer (some ⟨g, 0, none⟩) := rfl
theorem lookT_nil (N : Nat) (a : Act) (t : Nat) : lookT N a [] t = ext a t := rfl
theorem lookT_hit (N : Nat) (a : Act) (us : List (Nat × Value)) (d : Nat) (v : Value) (h : d < N) : lookT N a ((d, v) :: us) d = v := if_pos ⟨rfl, h⟩
theorem lookT_miss (N : Nat) (a : Act) (us : List (Nat × Value)) (d t : Nat) (v : Value) (h : t ≠ d) : lookT N a ((d, v) :: us) t = lookT N a us t := if_neg (fun hh => h hh.1)
def putAll (a : Act) : List (Nat × Value) → Act
  | [] => a
  | (d, v) :: us => (putAll a us).put (some d) v
theorem putAll_size (a : Act) : ∀ us, (putAll a us).tmps.size = a.tmps.size
  | [] => rfl
  | (d, v) :: us => by
    show ((putAll a us).tmps.setIfInBounds d v).size = _
    rw [Array.size_setIfInBounds, putAll_size a us]
theorem putAll_eval {N : Nat} {a : Act} (hN : a.tmps.size = N) : ∀ us, (putAll a us).eval = look N a us
  | [] => by funext x; cases x <;> rfl
  | (d, v) :: us => by
    funext x
    have ih := congrFun (putAll_eval hN us) x
    cases x with
    | tmp t =>
      show ((putAll a us).tmps.setIfInBounds d v).getD t undef = lookT N a ((d, v) :: us) t
      have ih2 : (putAll a us).tmps.getD t undef = lookT N a us t := ih
      rw [lookT, Array.getD_eq_getD_getElem?, Array.getElem?_setIfInBounds, putAll_size, hN]
      by_cases e : d = t
      · subst e
        by_cases h : d < N
        · rw [if_pos rfl, if_pos h, if_pos ⟨rfl, h⟩]; rfl
        · rw [if_pos rfl, if_neg h, if_neg (fun hh => h hh.2), ← ih2, Array.getD_eq_getD_getElem?, Array.getElem?_eq_none (by rw [putAll_size, hN]; omega)]
      · rw [if_neg e, if_neg (fun hh => e hh.1.symm), ← ih2, Array.getD_eq_getD_getElem?]
    | const v => rfl
    | global g => rfl
    | func f => rfl
theorem region_env {id : Nat} {A : Act} {w : World} {l : List Oper} (p : List (Nat × Bool)) (S : World → Prop) (N : Nat) (hN : A.tmps.size = N) (hm : P.follows .mixedOrders = true) (hB : planAll l.toArray p = true)
    (hQ : ∀ c a d v w, Q (.panic c) (Act.put a d v) w → Q (.panic c) a w) (hS : S w.drew)
    (h : ∀ (ops : Array Oper) (a : Act), Aside (a = A) → Aside (a.tmps.size = N) → (∀ j, ops[0 + j]? = l[j]?) → wpPlan P ops Q S [] p (putAll a []) w.drew) : (Code.region id l.toArray true).wp P Q A w :=
  region_all p S hm hB hQ hS (h l.toArray A ⟨rfl⟩ ⟨hN⟩ (fun j => by simp))
theorem ops_start {l : List Oper} (h : ∀ j, ops[0 + j]? = l[j]?) : Aside (∀ j, ops[0 + j]? = l[j]?) := ⟨h⟩
theorem ops_next (k k' : Nat) (hk : k' = k + 1) {o : Oper} {l : List Oper} (h : Aside (∀ j, ops[k + j]? = (o :: l)[j]?)) : Aside (ops[k]? = some o) ∧ Aside (∀ j, ops[k' + j]? = l[j]?) :=
  ⟨⟨(ops_cons k k' hk h.out).1⟩, ⟨(ops_cons k k' hk h.out).2⟩⟩
theorem bool_at {a : Act} {d : Nat} {b : Bool} (h : a.eval (.tmp d) = .bool b) : a.tmps[d]? = some (.bool b) := by
  have h2 : a.tmps.getD d undef = .bool b := h
  rw [Array.getD_eq_getD_getElem?] at h2
  cases e : a.tmps[d]? with
  | none => rw [e] at h2; cases h2
  | some v => rw [e] at h2; exact congrArg some h2
section
variable {N : Nat} {a : Act} (hN : Aside (a.tmps.size = N)) {i : Nat} {r : List (Nat × Bool)} {us : List (Nat × Value)} {w : World} {d : Nat} {op : Op} {ty : TypeId} {pos : String} {af : Array Edge}
include hN
theorem env_yes (ho : ops[i]? = some ⟨some d, op, ty, pos, af, none⟩) (v : Value) (hy : ∀ w', S w' → (execOp (look N a us) ⟨some d, op, ty, pos, af, none⟩).run P w' = .ok (.value v) w')
    (h : wpPlan P ops Q S [] r (putAll a ((d, v) :: us)) w) : wpPlan P ops Q S [] ((i, true) :: r) (putAll a us) w :=
  plan_yields v ho rfl (by rw [putAll_eval hN.out]; exact hy) h
theorem env_none (ho : ops[i]? = some ⟨none, op, ty, pos, af, none⟩) (v : Value) (hy : ∀ w', S w' → (execOp (look N a us) ⟨none, op, ty, pos, af, none⟩).run P w' = .ok (.value v) w')
    (h : wpPlan P ops Q S [] r (putAll a us) w) : wpPlan P ops Q S [] ((i, true) :: r) (putAll a us) w :=
  plan_yields v ho rfl (by rw [putAll_eval hN.out]; exact hy) h
variable {j dj : Nat} {b : Bool} {opj : Op} {tyj : TypeId} {posj : String} {afj : Array Edge} {gj : Option (Nat × Bool)}
theorem env_wanted (hj : ops[j]? = some ⟨some dj, opj, tyj, posj, afj, gj⟩) {x : Bool} (ht : lookT N a us dj = .bool x) (dst : Option Tmp) :
    Region.wanted ⟨dst, op, ty, pos, af, some (j, b)⟩ (yielded ops (putAll a us).tmps) = (some x == some b) :=
  wanted_at hj (bool_at (by rw [putAll_eval hN.out]; exact ht))
theorem env_on (ho : ops[i]? = some ⟨some d, op, ty, pos, af, some (j, b)⟩) (hj : ops[j]? = some ⟨some dj, opj, tyj, posj, afj, gj⟩) (ht : lookT N a us dj = .bool b) (v : Value)
    (hy : ∀ w', S w' → (execOp (look N a us) ⟨some d, op, ty, pos, af, some (j, b)⟩).run P w' = .ok (.value v) w') (h : wpPlan P ops Q S [] r (putAll a ((d, v) :: us)) w) : wpPlan P ops Q S [] ((i, true) :: r) (putAll a us) w :=
  plan_yields v ho (by rw [env_wanted hN hj ht]; simp) (by rw [putAll_eval hN.out]; exact hy) h
theorem env_off (ho : ops[i]? = some ⟨some d, op, ty, pos, af, some (j, b)⟩) (hj : ops[j]? = some ⟨some dj, opj, tyj, posj, afj, gj⟩) (ht : lookT N a us dj = .bool !b)
    (h : wpPlan P ops Q S [] r (putAll a ((d, undef) :: us)) w) : wpPlan P ops Q S [] ((i, true) :: r) (putAll a us) w :=
  plan_off ho (by rw [env_wanted hN hj ht]; cases b <;> rfl) h
theorem env_off_undef (ho : ops[i]? = some ⟨some d, op, ty, pos, af, some (j, b)⟩) (hj : ops[j]? = some ⟨some dj, opj, tyj, posj, afj, gj⟩) (ht : lookT N a us dj = undef)
    (h : wpPlan P ops Q S [] r (putAll a ((d, undef) :: us)) w) : wpPlan P ops Q S [] ((i, true) :: r) (putAll a us) w := by
  refine plan_off ho ?_ h
  have h2 : (putAll a us).tmps.getD dj undef = undef := (congrFun (putAll_eval hN.out us) (.tmp dj)).trans ht
  have h3 : yielded ops (putAll a us).tmps j = none := by
    unfold yielded
    rw [hj]
    show (match (putAll a us).tmps[dj]? with | some (.bool b) => some b | _ => none) = none
    rw [Array.getD_eq_getD_getElem?] at h2
    cases e : (putAll a us).tmps[dj]? with
    | none => rfl
    | some v => rw [e] at h2; have h4 : v = undef := h2; rw [h4]; rfl
  show (yielded ops (putAll a us).tmps j == some b) = false
  rw [h3]
  rfl
theorem eff_value {o : Oper} (ho : ops[i]? = some o) (hw : Region.wanted o (yielded ops (putAll a us).tmps) = true) (v : Value) (w2 : World) (hr : (execOp (look N a us) o).run P w = .ok (.value v) w2) (hS : S w2)
    (h : wpPlan P ops Q S [] r ((putAll a us).put o.dst v) w2) : wpPlan P ops Q S [] ((i, false) :: r) (putAll a us) w := by
  refine plan_effect ho hw (fun K hK => ?_)
  unfold Oper.wp
  rw [putAll_eval hN.out, hr]
  exact hK _ _ hS h
theorem eff_skip {o : Oper} (ho : ops[i]? = some o) (hw : Region.wanted o (yielded ops (putAll a us).tmps) = true) (w2 : World) (hr : (execOp (look N a us) o).run P w = .ok .skip w2) (hS : S w2)
    (h : wpPlan P ops Q S [] r ((putAll a us).put o.dst undef) w2) : wpPlan P ops Q S [] ((i, false) :: r) (putAll a us) w := by
  refine plan_effect ho hw (fun K hK => ?_)
  unfold Oper.wp
  rw [putAll_eval hN.out, hr]
  exact hK _ _ hS h
theorem eff_enter {o : Oper} (ho : ops[i]? = some o) (hw : Region.wanted o (yielded ops (putAll a us).tmps) = true) (f : FuncId) (args : Array Value) (hr : (execOp (look N a us) o).run P w = .ok (.enter f args) w)
    (h : Calls P f args w fun e w2 => ∃ v, e = .returned v ∧ S w2 ∧ wpPlan P ops Q S [] r ((putAll a us).put o.dst v) w2) : wpPlan P ops Q S [] ((i, false) :: r) (putAll a us) w := by
  refine plan_effect ho hw (fun K hK => ?_)
  unfold Oper.wp
  rw [putAll_eval hN.out, hr]
  rw [Oper.upon_enter]
  refine h.mono ?_
  rintro e w2 ⟨v, rfl, hS, h⟩
  exact hK _ _ hS h
/-- An operation that is carried out and yields a value in a new world. -/
theorem env_run (ho : ops[i]? = some ⟨some d, op, ty, pos, af, none⟩) (v : Value) (w2 : World) (hr : (execOp (look N a us) ⟨some d, op, ty, pos, af, none⟩).run P w = .ok (.value v) w2) (hS : S w2)
    (h : wpPlan P ops Q S [] r (putAll a ((d, v) :: us)) w2) : wpPlan P ops Q S [] ((i, false) :: r) (putAll a us) w := eff_value hN ho rfl v w2 hr hS h
theorem env_run_on (ho : ops[i]? = some ⟨some d, op, ty, pos, af, some (j, b)⟩) (hj : ops[j]? = some ⟨some dj, opj, tyj, posj, afj, gj⟩) (ht : lookT N a us dj = .bool b) (v : Value) (w2 : World)
    (hr : (execOp (look N a us) ⟨some d, op, ty, pos, af, some (j, b)⟩).run P w = .ok (.value v) w2) (hS : S w2)
    (h : wpPlan P ops Q S [] r (putAll a ((d, v) :: us)) w2) : wpPlan P ops Q S [] ((i, false) :: r) (putAll a us) w := eff_value hN ho (by rw [env_wanted hN hj ht]; simp) v w2 hr hS h
/-- A store. -/
theorem env_store (ho : ops[i]? = some ⟨none, op, ty, pos, af, none⟩) (w2 : World) (hr : (execOp (look N a us) ⟨none, op, ty, pos, af, none⟩).run P w = .ok .skip w2) (hS : S w2)
    (h : wpPlan P ops Q S [] r (putAll a us) w2) : wpPlan P ops Q S [] ((i, false) :: r) (putAll a us) w := eff_skip hN ho rfl w2 hr hS h
/-- A call. -/
theorem env_call (ho : ops[i]? = some ⟨some d, op, ty, pos, af, none⟩) (f : FuncId) (args : Array Value) (hr : (execOp (look N a us) ⟨some d, op, ty, pos, af, none⟩).run P w = .ok (.enter f args) w)
    (h : Calls P f args w fun e w2 => ∃ v, e = .returned v ∧ S w2 ∧ wpPlan P ops Q S [] r (putAll a ((d, v) :: us)) w2) : wpPlan P ops Q S [] ((i, false) :: r) (putAll a us) w := eff_enter hN ho rfl f args hr h
theorem env_call_on (ho : ops[i]? = some ⟨some d, op, ty, pos, af, some (j, b)⟩) (hj : ops[j]? = some ⟨some dj, opj, tyj, posj, afj, gj⟩) (ht : lookT N a us dj = .bool b) (f : FuncId) (args : Array Value)
    (hr : (execOp (look N a us) ⟨some d, op, ty, pos, af, some (j, b)⟩).run P w = .ok (.enter f args) w)
    (h : Calls P f args w fun e w2 => ∃ v, e = .returned v ∧ S w2 ∧ wpPlan P ops Q S [] r (putAll a ((d, v) :: us)) w2) : wpPlan P ops Q S [] ((i, false) :: r) (putAll a us) w := eff_enter hN ho (by rw [env_wanted hN hj ht]; simp) f args hr h
theorem env_call0 (ho : ops[i]? = some ⟨none, op, ty, pos, af, none⟩) (f : FuncId) (args : Array Value) (hr : (execOp (look N a us) ⟨none, op, ty, pos, af, none⟩).run P w = .ok (.enter f args) w)
    (h : Calls P f args w fun e w2 => ∃ v, e = .returned v ∧ S w2 ∧ wpPlan P ops Q S [] r (putAll a us) w2) : wpPlan P ops Q S [] ((i, false) :: r) (putAll a us) w := eff_enter hN ho rfl f args hr h
end
theorem env_end {a : Act} {us : List (Nat × Value)} {w : World} (h : Q .normal (putAll a us) w) : wpPlan P ops Q S [] [] (putAll a us) w := h
end Go.Proofs.Ytdldgchkinflmaa.Plan

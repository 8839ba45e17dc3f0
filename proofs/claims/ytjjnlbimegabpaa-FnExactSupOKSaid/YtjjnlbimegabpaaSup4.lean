/- Walk of the reference's SupOK. Conditions: those of each theorem. -/
import Derived.Test.YtjjnlbimegabpaaSup1
import Derived.Test.YtjjnlbimegabpaaGSupSpec
set_option linter.unusedVariables false
namespace Go.Proofs.Ytjjnlbimegabpaa.Fn
open Go.RowKit Go.Proofs.Ytjjnlbimegabpaa.Lib Go.Proofs.Ytjjnlbimegabpaa.Plan

theorem l05Between (n lo hi : Int) (w : World) : Calls Try.prog 44 #[.int .i64 n, .int .i64 lo, .int .i64 hi] w fun e w' => e = .returned (.bool (decide (lo ≤ n) && decide (n ≤ hi))) ∧ w = w' := by
  by_cases h1 : lo ≤ n
  · by_cases h2 : n ≤ hi
    · go_enter Try.func44, Try.ntmps44
      go_wp2
      go_ret
      exact ⟨ret_bool (by simp [h1, h2]), rfl⟩
    · go_enter Try.func44, Try.ntmps44
      go_wp2
      go_ret
      exact ⟨ret_bool (by simp [h1, h2]), rfl⟩
  · go_enter Try.func44, Try.ntmps44
    go_wp2
    go_ret
    exact ⟨ret_bool (by simp; omega), rfl⟩
def seenB (s : ByteArray) (l : List ByteArray) : Bool := l.any fun n => n.toList == s.toList
theorem seenB_iff {s : ByteArray} {l : List ByteArray} : seenB s l = true ↔ s ∈ l := by
  rw [seenB, List.any_eq_true]
  constructor
  · rintro ⟨n, hn, he⟩
    rwa [← ext_list (by simpa using he : n.toList = s.toList)]
  · exact fun h => ⟨s, h, by simp⟩
/-- From a child on, the names ahead of it known. -/
def kidsGo : List ByteArray → List ASupKid → Bool
  | _, [] => true
  | seen, k :: ks => kidB k.1 k.2.1 k.2.2 && (!seenB k.1 seen && kidsGo (seen ++ [k.1]) ks)
def namesTo (xs : List ASupKid) (k : Nat) : List ByteArray := (xs.take k).map (·.1)
theorem kidsGo_step (xs : List ASupKid) (k : Nat) (h : k < xs.length) : kidsGo (namesTo xs k) (xs.drop k) = (kidB xs[k].1 xs[k].2.1 xs[k].2.2 && (!seenB xs[k].1 (namesTo xs k) && kidsGo (namesTo xs (k + 1)) (xs.drop (k + 1)))) := by
  rw [List.drop_eq_getElem_cons h, kidsGo]
  congr 3
  rw [namesTo, namesTo, List.take_succ_eq_append_getElem h, List.map_append]
  rfl
theorem kidsGo_end (xs : List ASupKid) : kidsGo (namesTo xs xs.length) (xs.drop xs.length) = true := by rw [List.drop_length]; rfl
theorem mem_names {xs : List ASupKid} {k : Nat} {s : ByteArray} : s ∈ namesTo xs k ↔ ∃ (j : Nat) (h : j < xs.length), j < k ∧ xs[j].1 = s := by
  rw [namesTo, List.mem_map]
  constructor
  · rintro ⟨x, hx, rfl⟩
    obtain ⟨j, hj, rfl⟩ := List.getElem_of_mem hx
    rw [List.length_take] at hj
    exact ⟨j, by omega, by omega, by rw [List.getElem_take]⟩
  · rintro ⟨j, hj, hjk, rfl⟩
    exact ⟨xs[j], List.mem_take_iff_getElem.2 ⟨j, by omega, rfl⟩, rfl⟩
def headB (a0 a1 a2 : Int) (n : Nat) : Bool := decide (1 ≤ a0 ∧ a0 ≤ 4) && (decide (0 ≤ a1 ∧ a1 ≤ 50) && (decide (1 ≤ a2 ∧ a2 ≤ 1000000000) && decide (n ≤ 30)))
def supB (a : ASupSpec) : Bool := headB a.1 a.2.1 a.2.2.1 a.2.2.2.length && (!(decide (a.1 = 4) && !decide (a.2.2.2.length = 1)) && kidsGo [] a.2.2.2)
end Go.Proofs.Ytjjnlbimegabpaa.Fn

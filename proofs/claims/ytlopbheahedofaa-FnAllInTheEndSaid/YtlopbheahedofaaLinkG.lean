/- An act of any kind, both sides. Conditions: those of each theorem. -/
import Derived.Test.YtlopbheahedofaaLink6
import Derived.Test.YtlopbheahedofaaLink7
import Derived.Test.YtlopbheahedofaaLinkB
import Derived.Test.YtlopbheahedofaaLinkC
import Derived.Test.YtlopbheahedofaaLinkD
import Derived.Test.YtlopbheahedofaaLinkE
import Derived.Test.YtlopbheahedofaaLinkF
set_option linter.unusedVariables false
namespace Go.Proofs.Ytlopbheahedofaa.Fn
open Go Go.RowKit Go.Proofs.Ytlopbheahedofaa.Lib Go.Proofs.Ytlopbheahedofaa.Plan
attribute [local go_sem] look_tmp look_const look_func look_global lookT_nil lookT_hit lookT_miss

theorem iTurn (base g win KK : Nat) (s : Lk) (a : ALinkAct) (w : World) (h : LkAt w base g 61 win s) (ok : LkOK KK s) (ha : actB a = true) (hk : KK + 1 ≤ 1000000) (hwin : win ≤ 16) :
    Calls Try.prog 25 #[.pointer (some ⟨g, 0, none⟩), .agg #[.int .i64 a.1, .int .i64 a.2.1, .string a.2.2]] w fun e w' => e = .returned (.tuple #[]) ∧ LkAt w' base g 61 win (turnK win a s) ∧ Below base w w' := by
  obtain ⟨k, n, t⟩ := a
  have okA := ok.act (k, n, t) ha
  have ok1 := ok.mono (Nat.le_succ KK)
  by_cases h1 : k = 1
  · subst h1
    exact iAct1 base g win (KK + 1) s n t w h ok1 okA hk hwin
  by_cases h2 : k = 2
  · subst h2
    exact iAct2 base g win (KK + 1) s n t w h ok1 okA hk hwin
  by_cases h3 : k = 3
  · subst h3
    have hr : 0 ≤ n ∧ n ≤ 1000000000 := by simp [actB] at ha; exact ha.1
    exact iAct3 base g win (KK + 1) s n t w h ok1 okA hk hwin hr.1 hr.2
  by_cases h4 : k = 4
  · subst h4
    have hr : 0 ≤ n ∧ n ≤ 1000000000 := by simp [actB] at ha; exact ha.1
    exact iAct4 base g win (KK + 1) s n t w h ok1 okA hk hwin hr.1 hr.2
  by_cases h5 : k = 5
  · subst h5
    have hr : 0 ≤ n ∧ n ≤ 1000000000 := by simp [actB] at ha; exact ha.1
    exact iAct5 base g win (KK + 1) s n t w h ok1 okA hk hwin hr.1 hr.2
  by_cases h6 : k = 6
  · subst h6
    have hr : (0 ≤ n ∧ n ≤ 1000000000) ∧ t.size = 1 := by simp [actB] at ha; exact ha
    exact iAct6 base g win (KK + 1) s n t w h ok1 okA hk hwin hr.1.1 hr.1.2 hr.2
  exfalso
  simp [actB, h1, h2, h3, h4, h5, h6] at ha
theorem sTurn (base g win KK : Nat) (s : Lk) (a : ALinkAct) (w : World) (h : LkAt w base g 57 win s) (ok : LkOK KK s) (ha : actB a = true) (hk : KK + 1 ≤ 1000000) (hwin : win ≤ 16) :
    Calls Try.prog 23 #[.pointer (some ⟨g, 0, none⟩), .agg #[.int .i64 a.1, .int .i64 a.2.1, .string a.2.2]] w fun e w' => e = .returned (.tuple #[]) ∧ LkAt w' base g 57 win (turnK win a s) ∧ Below base w w' := by
  obtain ⟨k, n, t⟩ := a
  have okA := ok.act (k, n, t) ha
  have ok1 := ok.mono (Nat.le_succ KK)
  by_cases h1 : k = 1
  · subst h1
    exact sAct1 base g win (KK + 1) s n t w h ok1 okA hk hwin
  by_cases h2 : k = 2
  · subst h2
    exact sAct2 base g win (KK + 1) s n t w h ok1 okA hk hwin
  by_cases h3 : k = 3
  · subst h3
    have hr : 0 ≤ n ∧ n ≤ 1000000000 := by simp [actB] at ha; exact ha.1
    exact sAct3 base g win (KK + 1) s n t w h ok1 okA hk hwin hr.1 hr.2
  by_cases h4 : k = 4
  · subst h4
    have hr : 0 ≤ n ∧ n ≤ 1000000000 := by simp [actB] at ha; exact ha.1
    exact sAct4 base g win (KK + 1) s n t w h ok1 okA hk hwin hr.1 hr.2
  by_cases h5 : k = 5
  · subst h5
    have hr : 0 ≤ n ∧ n ≤ 1000000000 := by simp [actB] at ha; exact ha.1
    exact sAct5 base g win (KK + 1) s n t w h ok1 okA hk hwin hr.1 hr.2
  by_cases h6 : k = 6
  · subst h6
    have hr : (0 ≤ n ∧ n ≤ 1000000000) ∧ t.size = 1 := by simp [actB] at ha; exact ha
    exact sAct6 base g win (KK + 1) s n t w h ok1 okA hk hwin hr.1.1 hr.1.2 hr.2
  exfalso
  simp [actB, h1, h2, h3, h4, h5, h6] at ha
end Go.Proofs.Ytlopbheahedofaa.Fn

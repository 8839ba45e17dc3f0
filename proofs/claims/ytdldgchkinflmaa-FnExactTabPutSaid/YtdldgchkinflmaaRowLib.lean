/- Words for the rows: how large the parts of a struct are. Conditions: none. -/
import Derived.Test.YtdldgchkinflmaaRows
import Derived.SizedLaws
namespace Go.Proofs.Ytdldgchkinflmaa.RowLib
open Go
theorem sized_agg {H : Type} {P : Program} {ts : List TypeId} {ds : List (DataW H)} (h : (DataW.weightsEach P ts ds).all (· ≤ reachBytes) = true) {j : Nat} {t : TypeId} {fs : Array Field} {parts : List (DataW H)}
    (ht : ts[j]? = some t) (hd : ds[j]? = some (.agg parts)) (hu : P.underlying t = some (.struct fs)) : (DataW.weightsEach P (fs.toList.map (·.type)) parts).all (· ≤ reachBytes) = true := by
  rw [List.all_eq_true] at h ⊢
  intro n hn
  refine h n (DataW.weights_mem_each ht hd n ?_)
  rw [DataW.weights, hu]
  exact hn
end Go.Proofs.Ytdldgchkinflmaa.RowLib

/- A tick, case by case; no condition. -/
import Derived.Test.YtdamkcneecoimaaNew
namespace Go.Proofs.Ytdamkcneecoimaa

theorem tick_over {j : Jb} (h0 : j.how ≠ 0) : tick j = (j, -1, j.how) := by unfold tick; rw [if_pos h0]
theorem tick_done {j : Jb} (h0 : j.how = 0) (h1 : j.had + 1 = j.ds.getD j.k 0) (h2 : j.k + 1 = j.rs.length) : tick j = (⟨j.rs, j.ds, j.k + 1, 0, j.all + 1, 2⟩, (j.k : Int), 2) := by
  unfold tick; rw [if_neg (fun h => h h0), if_pos h1, if_pos h2]
theorem tick_part {j : Jb} (h0 : j.how = 0) (h1 : j.had + 1 = j.ds.getD j.k 0) (h2 : ¬ j.k + 1 = j.rs.length) : tick j = (⟨j.rs, j.ds, j.k + 1, 0, j.all + 1, 0⟩, (j.k : Int), 1) := by
  unfold tick; rw [if_neg (fun h => h h0), if_pos h1, if_neg h2]
theorem tick_cut {j : Jb} (h0 : j.how = 0) (h1 : ¬ j.had + 1 = j.ds.getD j.k 0) (h2 : j.had + 1 = j.rs.getD j.k 0) : tick j = (⟨j.rs, j.ds, j.k, j.had + 1, j.all + 1, 3⟩, (j.k : Int), 3) := by
  unfold tick; rw [if_neg (fun h => h h0), if_neg h1, if_pos h2]
theorem tick_on {j : Jb} (h0 : j.how = 0) (h1 : ¬ j.had + 1 = j.ds.getD j.k 0) (h2 : ¬ j.had + 1 = j.rs.getD j.k 0) : tick j = (⟨j.rs, j.ds, j.k, j.had + 1, j.all + 1, 0⟩, (j.k : Int), 0) := by
  unfold tick; rw [if_neg (fun h => h h0), if_neg h1, if_neg h2]

end Go.Proofs.Ytdamkcneecoimaa

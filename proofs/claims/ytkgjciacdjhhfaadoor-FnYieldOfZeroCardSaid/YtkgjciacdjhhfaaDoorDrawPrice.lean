/- The generators of a price: they end. -/
import Derived.Test.YtkgjciacdjhhfaaDoorRows
import Derived.Test.YtkgjciacdjhhfaaDoorBase
import Derived.Test.YtkgjciacdjhhfaaDoorDrawDay
namespace Go.Proofs.YtkgjciacdjhhfaaDoor
open Go.RowKit

set_option maxHeartbeats 400000 in
theorem anyPrice_any (rb m : Nat) (w : World) (h : Rdr 83 w rb m) (hm : m ≤ 1000000) :
    Calls Tryd.prog 52 #[.pointer (some ⟨rb, 0, none⟩)] w fun e w' => ∃ u : Int, e = .returned (.int .i64 u) ∧ (-1 ≤ u ∧ u ≤ 50001) ∧ Rdr 83 w' rb (m + 2) ∧ w.grownBy w' (some rb) := by
  go_enter Tryd.func52, Tryd.ntmps52
  go_wp2_with fail
  refine (pick_any rb m 250 _ h (by omega)).mono ?_
  rintro e w1 ⟨p, rfl, hp0, hp1, h1, hg⟩
  have hp : p < 250 := by omega
  clear hp1
  have Hg := hid hg
  clear hg h
  go_wp2_with fail
  refine (one_lit rb _ [10000, 9850, 10123, 1, 0, 50000, 50001, -1, 5000 + p * 40] _ _ _ rfl rfl (by simp) (by simp) _ _ rfl h1 (by omega)).mono ?_
  rintro e w2 ⟨x, rfl, hx, h2, hg⟩
  have hxb : -1 ≤ x ∧ x ≤ 50001 := by simp at hx; omega
  have Hg2 := hid (gr_transS Hg.out hg)
  have H2 := hid h2
  clear hx hg h1 h2
  go_wp2_with fail
  go_ret
  exact ⟨x, rfl, hxb, H2.out, Hg2.out⟩

end Go.Proofs.YtkgjciacdjhhfaaDoor

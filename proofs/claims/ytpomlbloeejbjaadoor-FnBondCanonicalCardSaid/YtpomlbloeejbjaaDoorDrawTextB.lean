/- DrawParseBond of the generators. -/
import Derived.Test.YtpomlbloeejbjaaDoorRows
import Derived.Test.YtpomlbloeejbjaaDoorBase
import Derived.Test.YtpomlbloeejbjaaDoorDrawText
import Derived.Test.YtpomlbloeejbjaaDoorFormatBond
namespace Go.Proofs.YtpomlbloeejbjaaDoor
open Go.RowKit

theorem fmtBond_len (b : Bond) : (fmtBond b).length ≤ 100 := by
  unfold fmtBond
  split
  · rename_i h
    obtain ⟨⟨s0, s1⟩, ⟨e0, e1⟩, ⟨r0, r1⟩, m0, m1⟩ := bond_days h
    have lq := dec_len12 (b.rate / 100) (by omega) (by omega)
    have lr := twoT_len (b.rate % 100) (by omega) (by omega)
    have ls := dateT_len (date_valid b.start s0 s1)
    have le := dateT_len (date_valid b.stop e0 e1)
    have lm := dec_len12 b.months (by omega) (by omega)
    unfold bondT rateT dayT
    simp only [List.length_append, List.length_cons]
    omega
  · simp
set_option maxHeartbeats 400000 in
theorem DrawParseBond_any (a : Option Addr) (n cap : Nat) (xs : List Int) (w : World) (hs : Sl u8L w a n xs) (hcap : n ≤ cap) (hx : ∀ x ∈ xs, 0 ≤ x ∧ x ≤ 255) :
    Calls Tryd.prog 26 #[.slice a n cap] w fun e w' => ∃ t : List UInt8, e = .returned (.string ⟨(t).toArray⟩) ∧ t.length ≤ 1000 ∧ w.grownBy w' none := by
  go_enter Tryd.func26, Tryd.ntmps26
  go_wp2_with fail
  refine (newReader_any a n cap xs _ hs hcap hx).mono ?_
  rintro e w1 ⟨rb, rfl, hrb, h1, hg⟩
  have Hg1 := hid hg
  clear hg hs hx
  go_wp2_with fail
  refine (anyBond_any rb _ _ h1 (by omega)).mono ?_
  rintro e w2 ⟨b, rfl, hB, h2, hg⟩
  have Hg2 := hid (gr_own Hg1.out hg (fun k e => by cases e; omega))
  clear hg h1
  go_wp2_with fail
  refine (specFormatBond_any b _).mono ?_
  rintro e w3 ⟨rfl, hg⟩
  have Hg3 := hid (gr_trans0 Hg2.out hg)
  have h3 := h2.keep0 hg
  have hlen : (fmtBond b).length ≤ 100 := fmtBond_len b
  generalize fmtBond b = s at *
  clear hg h2
  go_wp2_with fail
  refine (pick_any rb _ 3 _ h3 (by omega)).mono ?_
  rintro e w4 ⟨t, rfl, ht0, _, h4, hg⟩
  have Hg4 := hid (gr_own Hg3.out hg (fun k e => by cases e; omega))
  clear hg h3
  by_cases htz : t = 0
  · subst htz
    go_wp2_with fail
    refine (mutate_any rb _ s _ h4 (by omega) (by omega)).mono ?_
    rintro e w5 ⟨u, rfl, hu, _, hg⟩
    have Hg5 := hid (gr_own Hg4.out hg (fun k e => by cases e; omega))
    clear hg h4
    go_wp2_with fail
    go_ret
    exact ⟨u, rfl, by omega, Hg5.out⟩
  · have htb : (t == 0) = false := by simpa using htz
    clear htz
    go_wp2_with fail
    go_ret
    exact ⟨s, rfl, by omega, Hg4.out⟩


end Go.Proofs.YtpomlbloeejbjaaDoor

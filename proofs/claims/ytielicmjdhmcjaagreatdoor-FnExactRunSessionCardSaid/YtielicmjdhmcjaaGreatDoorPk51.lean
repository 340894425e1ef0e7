/- Packed: FrameS. -/
import Derived.Test.YtielicmjdhmcjaaGreatDoorRows
import Derived.Test.YtielicmjdhmcjaaGreatDoorPk09
import Derived.Test.YtielicmjdhmcjaaGreatDoorPk36
import Derived.SliceStrings
/- A law's argument that is a list of texts. -/
namespace Go.Proofs.YtielicmjdhmcjaaGreatDoor
open Go.RowKit

theorem sl_strs {H : Type} {enc : TypeId × Value → H} {w : World} {base : Nat} {spare : Nat → Bool} {held : Bool} {t e : TypeId} {fuel : Nat} {a : Option Addr} {n cap : Nat} {x : DataW H × List MemPlace}
    (ht : Tryz.prog.underlying t = some (.slice e)) (he : Tryz.prog.underlying e = some .string) (hc : Tryz.prog.cellsOf e = 1)
    (h : DataW.trod enc Tryz.prog w base spare held fuel t [.slice a n cap] = some x) : ∃ xs : List (List UInt8), Sl strL w a n xs ∧ n ≤ cap ∧ ∀ z ∈ xs, z.length ≤ maxLen := by
  rcases Go.ChangeShapes.open_strings ht he hc h with ⟨e1, _⟩ | ⟨b, len, cap', ss, e1, _, hl, hm, hz, _, hcell, hwf⟩
  · simp only [List.cons.injEq, Value.slice.injEq, and_true] at e1
    obtain ⟨rfl, rfl, rfl⟩ := e1
    exact ⟨[], Sl.nil _ _ _, Nat.le_refl _, by simp⟩
  · simp only [List.cons.injEq, Value.slice.injEq, and_true] at e1
    obtain ⟨rfl, rfl, rfl⟩ := e1
    have hzn : n ≤ ss.length := by rw [hz]; split <;> omega
    refine ⟨(ss.take n).map (fun s => s.data.toList), ⟨by rw [List.length_map, List.length_take]; omega, Nat.le_trans hl hm, fun h0 => ?_⟩, hl, fun z hz => ?_⟩
    · have h00 := hcell 0 (by omega)
      have hb : b = ⟨b.block, b.off, none⟩ := add_plain (by simpa [Addr.add] using h00)
      refine ⟨b.block, b.off, by rw [← hb], World.block_lt_of_cell? w _ h00, fun i z hx j c hj => ?_⟩
      have hi : i < n := by have := lt_of_at hx; rw [List.length_map, List.length_take] at this; omega
      rw [List.getElem?_map, List.getElem?_take_of_lt hi] at hx
      cases j with
      | succ j => simp [strL] at hj
      | zero =>
        obtain ⟨s, hs, rfl⟩ := Option.map_eq_some_iff.1 hx
        have h1 := hcell i (by omega)
        rw [hb] at h1
        have e2 : ss.getD i ByteArray.empty = s := by simp [List.getD, hs]
        rw [e2] at h1
        have hj2 : c = .string s := by
          simp only [strL, List.getElem?_cons_zero, Option.some.injEq] at hj
          rw [← hj]
        subst hj2
        have hsz : strL.sz = 1 := rfl
        rw [hsz, Nat.mul_one, Nat.add_zero]
        by_cases hi0 : i = 0
        · subst hi0; simpa [Addr.add] using h1
        · simpa [Addr.add, hi0] using h1
    · obtain ⟨s, hs, rfl⟩ := List.mem_map.1 hz
      have := hwf s (List.mem_of_mem_take hs)
      simpa using this
theorem Tryz.cellsStr : Tryz.prog.cellsOf 9 = 1 := by kernel_rfl
end Go.Proofs.YtielicmjdhmcjaaGreatDoor

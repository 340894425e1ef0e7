/- Packed: NumWord, SpecSess, StrS. -/
import Derived.Test.YtielicmjdhmcjaaGreatDoorRows
import Derived.Test.YtielicmjdhmcjaaGreatDoorPk46
/- Words of numbers: numberWord of the program, number and small of the reference. -/
namespace Go.Proofs.YtielicmjdhmcjaaGreatDoor
open Go.RowKit

theorem bytes_of (l : List UInt8) (w : World) : ∃ cp Wc, (convert 9 22 (.string ⟨(l).toArray⟩)).run Tryz.prog w = .ok (.slice (some ⟨w.heap.size, 0, none⟩) l.length cp) Wc ∧ w.grownBy Wc none ∧ ∀ (k : Nat) (c : UInt8), l[k]? = some c → Wc.cell? ⟨w.heap.size, k, none⟩ = some (.int .u8 c.toNat) := by
  have h := run_bytes_of_string (P := Tryz.prog) w 9 22 5 ⟨l.toArray⟩ Tryz.underlying9 Tryz.underlying22 Tryz.underlying5
  have hs : ByteArray.size ⟨l.toArray⟩ = l.length := by show l.toArray.size = _; rw [List.size_toArray]
  rw [hs] at h
  refine ⟨_, _, h, ⟨rfl, rfl, rfl, by simp, fun i hi _ => Below.heap_alloc _ _ _ hi⟩, fun k c hc => ?_⟩
  have hk := lt_of_at hc
  have hb := heap_alloc_new w.drew (.cells (bytesRow ⟨l.toArray⟩ (grownCap w l.length 0 5)) 5 ((bytesRow ⟨l.toArray⟩ (grownCap w l.length 0 5)).size, (bytesRow ⟨l.toArray⟩ (grownCap w l.length 0 5)).size + 1))
  refine blk_cell hb k _ ?_
  unfold bytesRow
  rw [Array.getElem?_append_left (by simpa using hk)]
  simp [hc]

set_option maxRecDepth 100000 in
set_option maxHeartbeats 1000000 in
theorem numberWord_any (l : List UInt8) (w : World) (hl : l.length ≤ 2000000) :
    Calls Tryz.prog 34 #[.string ⟨(l).toArray⟩] w fun e w' => e = .returned (.int .i64 (numW l)) ∧ w.grownBy w' none := by
  by_cases h0 : l.length < 1
  · have HT := hid (show numW l = -1099511627776 by unfold numW; rw [if_pos (.inl h0)]; rfl)
    have hd : decide ((l.length : Int) < 1) = true := by simp; omega
    clear h0
    go_enter Tryz.func34, Tryz.ntmps34
    go_wp2_with fail
    go_ret
    exact ⟨ret_int HT.out.symm, gr0 _⟩
  have hd0 : decide ((l.length : Int) < 1) = false := by simp; omega
  by_cases h5 : 5 < l.length
  · have HT := hid (show numW l = -1099511627776 by unfold numW; rw [if_pos (.inr (.inl h5))]; rfl)
    have hd : decide ((5 : Int) < l.length) = true := by simp; omega
    clear h0 h5
    go_enter Tryz.func34, Tryz.ntmps34
    go_wp2_with fail
    go_ret
    exact ⟨ret_int HT.out.symm, gr0 _⟩
  have hd5 : decide ((5 : Int) < l.length) = false := by simp; omega
  obtain ⟨c0, hc0⟩ : ∃ c, l[0]? = some c := ⟨l[0]'(by omega), List.getElem?_eq_getElem (by omega)⟩
  have hix := fun w => str_at w 9 l 0 c0 hc0 Tryz.underlying9
  have hix0 : ∀ w, (Instr.index 9 (.string ⟨(l).toArray⟩) (.int .i64 0)).run Tryz.prog w = .ok (.int .u8 c0.toNat) w := fun w => hix w
  clear hix
  obtain ⟨z0, hz0⟩ : ∃ z : Int, (c0.toNat : Int) = z := ⟨_, rfl⟩
  rw [hz0] at hix0
  by_cases hlead : 1 < l.length ∧ c0 = 48
  · have HT := hid (show numW l = -1099511627776 by unfold numW; rw [if_pos (.inr (.inr ⟨hlead.1, by rw [hc0, hlead.2]⟩))]; rfl)
    have hd1 : decide ((1 : Int) < l.length) = true := by simp; omega
    have hz48 : (z0 == 48) = true := by rw [← hz0, hlead.2]; rfl
    clear h0 h5 hlead hz0 hc0
    go_enter Tryz.func34, Tryz.ntmps34
    go_wp2_with fail
    go_ret
    exact ⟨ret_int HT.out.symm, gr0 _⟩
  have HT := hid (show numW l = (if l.all isDig = true then valD l else -1099511627776) by
    unfold numW
    rw [if_neg (by
      rintro (h | h | ⟨h, h2⟩)
      · exact h0 h
      · exact h5 h
      · rw [hc0] at h2; exact hlead ⟨h, Option.some.inj h2⟩)]; rfl)
  obtain ⟨cp, Wc, hcv, hgr, hcell⟩ := bytes_of l w
  have Hgr := hid hgr
  have Hcell := hid hcell
  clear hgr hcell
  have hone : decide ((1 : Int) < l.length) = false ∨ (z0 == 48) = false := by
    by_cases h1 : 1 < l.length
    · right
      have : ¬ z0 = 48 := fun e => hlead ⟨h1, UInt8.toNat_inj.1 (show c0.toNat = (48 : UInt8).toNat by have : (48 : UInt8).toNat = 48 := rfl; omega)⟩
      simpa using this
    · left; simp; omega
  have hlen5 : l.length ≤ 5 := by omega
  clear h0 h5 hlead hz0 hc0
  rcases hone with h1 | h1
  · by_cases hz : (z0 == 48) = true
    · go_enter Tryz.func34, Tryz.ntmps34
      go_wp2_with fail
      go_loopw [3, 27] (fun n i wr => ∃ k : Nat, k ≤ l.length ∧ i = .int .i64 k ∧ n = .int .i64 (valD (l.take k)) ∧ Hid (∀ c ∈ l.take k, isDig c = true) ∧ wr = Wc) (fun _ i _ => l.length - (intOf i).toNat)
      case atStart => exact ⟨0, by omega, rfl, rfl, hid (by simp), rfl⟩
      case round =>
        obtain ⟨k, hk, rfl, rfl, Hdk, rfl⟩ := hrel
        have hds := Hdk.out
        by_cases hlt : k < l.length
        · have hdk : decide ((k : Int) < l.length) = true := by simp; omega
          have hc := List.getElem?_eq_getElem hlt
          generalize l[k] = c at hc
          have hcc := Hcell.out k c hc
          cases hdig : isDig c with
          | true =>
            have hz := dig_bd hdig
            have hb := valD_pow k (l.take k) (by rw [List.length_take]; omega) hds
            have hp : (10 : Int) ^ k ≤ 10 ^ 5 := by
              have h9 := Nat.pow_le_pow_right (n := 10) (by decide) (show k ≤ 5 by omega)
              exact_mod_cast h9
            have HN := hid (show valD (l.take (k + 1)) = 10 * valD (l.take k) + ((c.toNat : Int) - 48) by rw [take_snoc _ _ _ hc, valD_snoc])
            have Hds := hid (show ∀ x ∈ l.take (k + 1), isDig x = true by
              intro x hx
              rw [take_snoc _ _ _ hc] at hx
              rcases List.mem_append.1 hx with hx | hx
              · exact hds x hx
              · rw [List.mem_singleton.1 hx]; exact hdig)
            obtain ⟨z, hzz⟩ : ∃ z : Int, (c.toNat : Int) = z := ⟨_, rfl⟩
            rw [hzz] at hcc HN
            have e1 : decide (z < 48) = false := by simp; omega
            have e2 : decide (57 < z) = false := by simp; omega
            generalize valD (l.take k) = v at *
            have u1 : IntKind.i64.wrap (10 * v) = 10 * v := IntWalk.i64_in _ (by omega)
            have u2 : IntKind.u8.wrap (z - 48) = z - 48 := u8_in _ (by omega) (by omega)
            have u3 : IntKind.i64.wrap (z - 48) = z - 48 := IntWalk.i64_in _ (by omega)
            have u4 : IntKind.i64.wrap (10 * v + (z - 48)) = 10 * v + (z - 48) := IntWalk.i64_in _ (by omega)
            clear hc hdig hz hb hp hds hzz
            go_wp2_with fail
            go_roundw
            case rel => exact ⟨k + 1, by omega, by go_num, by rw [HN.out], Hds, trivial⟩
            case measure => simp [intOf]; omega
          | false =>
            have HF := hid (show l.all isDig = false by
              cases h : l.all isDig with
              | false => rfl
              | true =>
                rw [List.all_eq_true] at h
                have := h c (List.mem_of_getElem? hc)
                rw [hdig] at this; cases this)
            have hz : c.toNat < 48 ∨ 57 < c.toNat := by
              unfold isDig at hdig
              simp only [Bool.and_eq_false_iff, decide_eq_false_iff_not] at hdig
              omega
            obtain ⟨z, hzz⟩ : ∃ z : Int, (c.toNat : Int) = z := ⟨_, rfl⟩
            rw [hzz] at hcc
            have HR : Hid (numW l = -1099511627776) := hid (by rw [HT.out, HF.out]; rfl)
            by_cases hlo : z < 48
            · have e1 : decide (z < 48) = true := by simpa using hlo
              clear hc hdig hz hds hzz hlo
              go_wp2_with fail
              go_ret
              exact ⟨ret_int HR.out.symm, Hgr.out⟩
            · have e1 : decide (z < 48) = false := by simpa using hlo
              have e2 : decide (57 < z) = true := by simp; omega
              clear hc hdig hz hds hzz hlo
              go_wp2_with fail
              go_ret
              exact ⟨ret_int HR.out.symm, Hgr.out⟩
        · have hdk : decide ((k : Int) < l.length) = false := by simp; omega
          obtain rfl : k = l.length := by omega
          rw [List.take_length] at hds
          have HR := hid (show numW l = valD l by rw [HT.out, if_pos (by rw [List.all_eq_true]; exact hds)])
          rw [List.take_length]
          clear hds
          go_wp2_with fail
          go_ret
          exact ⟨ret_int HR.out.symm, Hgr.out⟩
    · have hz' : (z0 == 48) = false := by simpa using hz
      clear hz
      go_enter Tryz.func34, Tryz.ntmps34
      go_wp2_with fail
      go_loopw [3, 27] (fun n i wr => ∃ k : Nat, k ≤ l.length ∧ i = .int .i64 k ∧ n = .int .i64 (valD (l.take k)) ∧ Hid (∀ c ∈ l.take k, isDig c = true) ∧ wr = Wc) (fun _ i _ => l.length - (intOf i).toNat)
      case atStart => exact ⟨0, by omega, rfl, rfl, hid (by simp), rfl⟩
      case round =>
        obtain ⟨k, hk, rfl, rfl, Hdk, rfl⟩ := hrel
        have hds := Hdk.out
        by_cases hlt : k < l.length
        · have hdk : decide ((k : Int) < l.length) = true := by simp; omega
          have hc := List.getElem?_eq_getElem hlt
          generalize l[k] = c at hc
          have hcc := Hcell.out k c hc
          cases hdig : isDig c with
          | true =>
            have hz := dig_bd hdig
            have hb := valD_pow k (l.take k) (by rw [List.length_take]; omega) hds
            have hp : (10 : Int) ^ k ≤ 10 ^ 5 := by
              have h9 := Nat.pow_le_pow_right (n := 10) (by decide) (show k ≤ 5 by omega)
              exact_mod_cast h9
            have HN := hid (show valD (l.take (k + 1)) = 10 * valD (l.take k) + ((c.toNat : Int) - 48) by rw [take_snoc _ _ _ hc, valD_snoc])
            have Hds := hid (show ∀ x ∈ l.take (k + 1), isDig x = true by
              intro x hx
              rw [take_snoc _ _ _ hc] at hx
              rcases List.mem_append.1 hx with hx | hx
              · exact hds x hx
              · rw [List.mem_singleton.1 hx]; exact hdig)
            obtain ⟨z, hzz⟩ : ∃ z : Int, (c.toNat : Int) = z := ⟨_, rfl⟩
            rw [hzz] at hcc HN
            have e1 : decide (z < 48) = false := by simp; omega
            have e2 : decide (57 < z) = false := by simp; omega
            generalize valD (l.take k) = v at *
            have u1 : IntKind.i64.wrap (10 * v) = 10 * v := IntWalk.i64_in _ (by omega)
            have u2 : IntKind.u8.wrap (z - 48) = z - 48 := u8_in _ (by omega) (by omega)
            have u3 : IntKind.i64.wrap (z - 48) = z - 48 := IntWalk.i64_in _ (by omega)
            have u4 : IntKind.i64.wrap (10 * v + (z - 48)) = 10 * v + (z - 48) := IntWalk.i64_in _ (by omega)
            clear hc hdig hz hb hp hds hzz
            go_wp2_with fail
            go_roundw
            case rel => exact ⟨k + 1, by omega, by go_num, by rw [HN.out], Hds, trivial⟩
            case measure => simp [intOf]; omega
          | false =>
            have HF := hid (show l.all isDig = false by
              cases h : l.all isDig with
              | false => rfl
              | true =>
                rw [List.all_eq_true] at h
                have := h c (List.mem_of_getElem? hc)
                rw [hdig] at this; cases this)
            have hz : c.toNat < 48 ∨ 57 < c.toNat := by
              unfold isDig at hdig
              simp only [Bool.and_eq_false_iff, decide_eq_false_iff_not] at hdig
              omega
            obtain ⟨z, hzz⟩ : ∃ z : Int, (c.toNat : Int) = z := ⟨_, rfl⟩
            rw [hzz] at hcc
            have HR : Hid (numW l = -1099511627776) := hid (by rw [HT.out, HF.out]; rfl)
            by_cases hlo : z < 48
            · have e1 : decide (z < 48) = true := by simpa using hlo
              clear hc hdig hz hds hzz hlo
              go_wp2_with fail
              go_ret
              exact ⟨ret_int HR.out.symm, Hgr.out⟩
            · have e1 : decide (z < 48) = false := by simpa using hlo
              have e2 : decide (57 < z) = true := by simp; omega
              clear hc hdig hz hds hzz hlo
              go_wp2_with fail
              go_ret
              exact ⟨ret_int HR.out.symm, Hgr.out⟩
        · have hdk : decide ((k : Int) < l.length) = false := by simp; omega
          obtain rfl : k = l.length := by omega
          rw [List.take_length] at hds
          have HR := hid (show numW l = valD l by rw [HT.out, if_pos (by rw [List.all_eq_true]; exact hds)])
          rw [List.take_length]
          clear hds
          go_wp2_with fail
          go_ret
          exact ⟨ret_int HR.out.symm, Hgr.out⟩
  · by_cases hz : decide ((1 : Int) < l.length) = true
    · go_enter Tryz.func34, Tryz.ntmps34
      go_wp2_with fail
      go_loopw [3, 27] (fun n i wr => ∃ k : Nat, k ≤ l.length ∧ i = .int .i64 k ∧ n = .int .i64 (valD (l.take k)) ∧ Hid (∀ c ∈ l.take k, isDig c = true) ∧ wr = Wc) (fun _ i _ => l.length - (intOf i).toNat)
      case atStart => exact ⟨0, by omega, rfl, rfl, hid (by simp), rfl⟩
      case round =>
        obtain ⟨k, hk, rfl, rfl, Hdk, rfl⟩ := hrel
        have hds := Hdk.out
        by_cases hlt : k < l.length
        · have hdk : decide ((k : Int) < l.length) = true := by simp; omega
          have hc := List.getElem?_eq_getElem hlt
          generalize l[k] = c at hc
          have hcc := Hcell.out k c hc
          cases hdig : isDig c with
          | true =>
            have hz := dig_bd hdig
            have hb := valD_pow k (l.take k) (by rw [List.length_take]; omega) hds
            have hp : (10 : Int) ^ k ≤ 10 ^ 5 := by
              have h9 := Nat.pow_le_pow_right (n := 10) (by decide) (show k ≤ 5 by omega)
              exact_mod_cast h9
            have HN := hid (show valD (l.take (k + 1)) = 10 * valD (l.take k) + ((c.toNat : Int) - 48) by rw [take_snoc _ _ _ hc, valD_snoc])
            have Hds := hid (show ∀ x ∈ l.take (k + 1), isDig x = true by
              intro x hx
              rw [take_snoc _ _ _ hc] at hx
              rcases List.mem_append.1 hx with hx | hx
              · exact hds x hx
              · rw [List.mem_singleton.1 hx]; exact hdig)
            obtain ⟨z, hzz⟩ : ∃ z : Int, (c.toNat : Int) = z := ⟨_, rfl⟩
            rw [hzz] at hcc HN
            have e1 : decide (z < 48) = false := by simp; omega
            have e2 : decide (57 < z) = false := by simp; omega
            generalize valD (l.take k) = v at *
            have u1 : IntKind.i64.wrap (10 * v) = 10 * v := IntWalk.i64_in _ (by omega)
            have u2 : IntKind.u8.wrap (z - 48) = z - 48 := u8_in _ (by omega) (by omega)
            have u3 : IntKind.i64.wrap (z - 48) = z - 48 := IntWalk.i64_in _ (by omega)
            have u4 : IntKind.i64.wrap (10 * v + (z - 48)) = 10 * v + (z - 48) := IntWalk.i64_in _ (by omega)
            clear hc hdig hz hb hp hds hzz
            go_wp2_with fail
            go_roundw
            case rel => exact ⟨k + 1, by omega, by go_num, by rw [HN.out], Hds, trivial⟩
            case measure => simp [intOf]; omega
          | false =>
            have HF := hid (show l.all isDig = false by
              cases h : l.all isDig with
              | false => rfl
              | true =>
                rw [List.all_eq_true] at h
                have := h c (List.mem_of_getElem? hc)
                rw [hdig] at this; cases this)
            have hz : c.toNat < 48 ∨ 57 < c.toNat := by
              unfold isDig at hdig
              simp only [Bool.and_eq_false_iff, decide_eq_false_iff_not] at hdig
              omega
            obtain ⟨z, hzz⟩ : ∃ z : Int, (c.toNat : Int) = z := ⟨_, rfl⟩
            rw [hzz] at hcc
            have HR : Hid (numW l = -1099511627776) := hid (by rw [HT.out, HF.out]; rfl)
            by_cases hlo : z < 48
            · have e1 : decide (z < 48) = true := by simpa using hlo
              clear hc hdig hz hds hzz hlo
              go_wp2_with fail
              go_ret
              exact ⟨ret_int HR.out.symm, Hgr.out⟩
            · have e1 : decide (z < 48) = false := by simpa using hlo
              have e2 : decide (57 < z) = true := by simp; omega
              clear hc hdig hz hds hzz hlo
              go_wp2_with fail
              go_ret
              exact ⟨ret_int HR.out.symm, Hgr.out⟩
        · have hdk : decide ((k : Int) < l.length) = false := by simp; omega
          obtain rfl : k = l.length := by omega
          rw [List.take_length] at hds
          have HR := hid (show numW l = valD l by rw [HT.out, if_pos (by rw [List.all_eq_true]; exact hds)])
          rw [List.take_length]
          clear hds
          go_wp2_with fail
          go_ret
          exact ⟨ret_int HR.out.symm, Hgr.out⟩
    · have hz' : decide ((1 : Int) < l.length) = false := by simpa using hz
      clear hz
      go_enter Tryz.func34, Tryz.ntmps34
      go_wp2_with fail
      go_loopw [3, 27] (fun n i wr => ∃ k : Nat, k ≤ l.length ∧ i = .int .i64 k ∧ n = .int .i64 (valD (l.take k)) ∧ Hid (∀ c ∈ l.take k, isDig c = true) ∧ wr = Wc) (fun _ i _ => l.length - (intOf i).toNat)
      case atStart => exact ⟨0, by omega, rfl, rfl, hid (by simp), rfl⟩
      case round =>
        obtain ⟨k, hk, rfl, rfl, Hdk, rfl⟩ := hrel
        have hds := Hdk.out
        by_cases hlt : k < l.length
        · have hdk : decide ((k : Int) < l.length) = true := by simp; omega
          have hc := List.getElem?_eq_getElem hlt
          generalize l[k] = c at hc
          have hcc := Hcell.out k c hc
          cases hdig : isDig c with
          | true =>
            have hz := dig_bd hdig
            have hb := valD_pow k (l.take k) (by rw [List.length_take]; omega) hds
            have hp : (10 : Int) ^ k ≤ 10 ^ 5 := by
              have h9 := Nat.pow_le_pow_right (n := 10) (by decide) (show k ≤ 5 by omega)
              exact_mod_cast h9
            have HN := hid (show valD (l.take (k + 1)) = 10 * valD (l.take k) + ((c.toNat : Int) - 48) by rw [take_snoc _ _ _ hc, valD_snoc])
            have Hds := hid (show ∀ x ∈ l.take (k + 1), isDig x = true by
              intro x hx
              rw [take_snoc _ _ _ hc] at hx
              rcases List.mem_append.1 hx with hx | hx
              · exact hds x hx
              · rw [List.mem_singleton.1 hx]; exact hdig)
            obtain ⟨z, hzz⟩ : ∃ z : Int, (c.toNat : Int) = z := ⟨_, rfl⟩
            rw [hzz] at hcc HN
            have e1 : decide (z < 48) = false := by simp; omega
            have e2 : decide (57 < z) = false := by simp; omega
            generalize valD (l.take k) = v at *
            have u1 : IntKind.i64.wrap (10 * v) = 10 * v := IntWalk.i64_in _ (by omega)
            have u2 : IntKind.u8.wrap (z - 48) = z - 48 := u8_in _ (by omega) (by omega)
            have u3 : IntKind.i64.wrap (z - 48) = z - 48 := IntWalk.i64_in _ (by omega)
            have u4 : IntKind.i64.wrap (10 * v + (z - 48)) = 10 * v + (z - 48) := IntWalk.i64_in _ (by omega)
            clear hc hdig hz hb hp hds hzz
            go_wp2_with fail
            go_roundw
            case rel => exact ⟨k + 1, by omega, by go_num, by rw [HN.out], Hds, trivial⟩
            case measure => simp [intOf]; omega
          | false =>
            have HF := hid (show l.all isDig = false by
              cases h : l.all isDig with
              | false => rfl
              | true =>
                rw [List.all_eq_true] at h
                have := h c (List.mem_of_getElem? hc)
                rw [hdig] at this; cases this)
            have hz : c.toNat < 48 ∨ 57 < c.toNat := by
              unfold isDig at hdig
              simp only [Bool.and_eq_false_iff, decide_eq_false_iff_not] at hdig
              omega
            obtain ⟨z, hzz⟩ : ∃ z : Int, (c.toNat : Int) = z := ⟨_, rfl⟩
            rw [hzz] at hcc
            have HR : Hid (numW l = -1099511627776) := hid (by rw [HT.out, HF.out]; rfl)
            by_cases hlo : z < 48
            · have e1 : decide (z < 48) = true := by simpa using hlo
              clear hc hdig hz hds hzz hlo
              go_wp2_with fail
              go_ret
              exact ⟨ret_int HR.out.symm, Hgr.out⟩
            · have e1 : decide (z < 48) = false := by simpa using hlo
              have e2 : decide (57 < z) = true := by simp; omega
              clear hc hdig hz hds hzz hlo
              go_wp2_with fail
              go_ret
              exact ⟨ret_int HR.out.symm, Hgr.out⟩
        · have hdk : decide ((k : Int) < l.length) = false := by simp; omega
          obtain rfl : k = l.length := by omega
          rw [List.take_length] at hds
          have HR := hid (show numW l = valD l by rw [HT.out, if_pos (by rw [List.all_eq_true]; exact hds)])
          rw [List.take_length]
          clear hds
          go_wp2_with fail
          go_ret
          exact ⟨ret_int HR.out.symm, Hgr.out⟩
end Go.Proofs.YtielicmjdhmcjaaGreatDoor

/- RunSession of the reference. -/
namespace Go.Proofs.YtielicmjdhmcjaaGreatDoor
open Go.RowKit

theorem sess_done {ls : List (List UInt8)} {k : Nat} (h : k = ls.length ∧ k ≤ 20 ∨ k = 20) : runL desk0 (ls.take k) = sessT ls := by
  unfold sessT
  rcases h with ⟨rfl, h⟩ | rfl
  · rw [List.take_length, List.take_of_length_le h]
  · rfl
theorem desk_zero {T : Nat} {w : World} {sb : Nat} (h : w.heap[sb]? = some (Obj.cells #[.int .i64 0, .int .i64 0, .int .i64 0, .int .i64 0, .int .i64 0, .slice none 0 0] T)) : DeskAt T w sb desk0 :=
  ⟨none, 0, 0, h, Sl.nil _ _ none, Nat.le_refl _, fun _ => ⟨rfl, rfl⟩, fun h => by omega, fun b off e => by cases e⟩

theorem text_at {w : World} {a : Option Addr} {n : Nat} {xs : List (List UInt8)} (h : Sl strL w a n xs) (k : Nat) (hk : k < n) : ∃ b off x, a = some ⟨b, off, none⟩ ∧ xs[k]? = some x ∧ w.cell? ⟨b, off + k, none⟩ = some (.string ⟨(x).toArray⟩) := by
  obtain ⟨b, off, x, e, hx, _, c⟩ := h.at k hk
  refine ⟨b, off, x, e, hx, ?_⟩
  have := c 0 _ rfl
  simpa [strL] using this

set_option maxRecDepth 100000 in
set_option maxHeartbeats 1000000 in
theorem specRunSession_any (a : Option Addr) (n cap : Nat) (ls : List (List UInt8)) (w : World) (hs : Sl strL w a n ls) (hl : ∀ x ∈ ls, x.length ≤ 2000000) :
    Calls Tryz.prog 9 #[.slice a n cap] w fun e w' => e = .returned (.string ⟨(sessT ls).toArray⟩) ∧ w.grownBy w' none := by
  have Hs := hid hs
  have hlen := hs.len
  have HD0 := hid (desk_zero (heap_alloc_new w (Obj.cells #[.int .i64 0, .int .i64 0, .int .i64 0, .int .i64 0, .int .i64 0, .slice none 0 0] 53)))
  have HG0 := hid (gr_alloc (gr0 w) (Obj.cells #[.int .i64 0, .int .i64 0, .int .i64 0, .int .i64 0, .int .i64 0, .slice none 0 0] 53))
  clear hs
  go_enter Tryz.func9, Tryz.ntmps9
  go_wp2_with fail
  go_loopw [4, 5] (fun o i wr => ∃ k : Nat, k ≤ n ∧ k ≤ 20 ∧ i = .int .i64 k ∧ o = .string ⟨(runL desk0 (ls.take k)).toArray⟩ ∧ Hid (DeskAt 53 wr w.heap.size (deskL desk0 (ls.take k))) ∧ Hid (w.grownBy wr none)) (fun _ i _ => n - (intOf i).toNat)
  case atStart => exact ⟨0, by omega, by omega, rfl, rfl, HD0, HG0⟩
  case round =>
    obtain ⟨k, hk, hk20, rfl, rfl, HD, HG⟩ := hrel
    clear HD0 HG0
    by_cases h1 : k < n
    · have d1 : decide (k < n) = true := by simpa using h1
      by_cases h2 : k < 20
      · have d2 : decide ((k : Int) < 20) = true := by simp; omega
        obtain ⟨b, off, x, rfl, hx, hcell⟩ := text_at (Hs.out.keep0 HG.out) k h1
        have hxl := hl x (List.mem_of_getElem? hx)
        have HL := hid (line_any w.heap.size (deskL desk0 (ls.take k)) x wr HD.out (desk0_ok.lines _) hxl)
        have hr := runL_le (ls.take k) desk0
        rw [List.length_take] at hr
        have hy := line_le (deskL desk0 (ls.take k)) x
        have HR := hid (show runL desk0 (ls.take (k + 1)) = runL desk0 (ls.take k) ++ (lineD (deskL desk0 (ls.take k)) x).2 ++ [10] by rw [take_snoc _ _ _ hx, runL_snoc, List.append_assoc])
        have HDs := hid (show deskL desk0 (ls.take (k + 1)) = (lineD (deskL desk0 (ls.take k)) x).1 by rw [take_snoc _ _ _ hx, deskL_snoc])
        generalize (lineD (deskL desk0 (ls.take k)) x).2 = y at *
        generalize (lineD (deskL desk0 (ls.take k)) x).1 = D at *
        generalize runL desk0 (ls.take k) = o at *
        have a1 : ∀ w, (Op.stringOp .add ⟨o.toArray⟩ ⟨y.toArray⟩).run Tryz.prog w = .ok (.string ⟨(o ++ y).toArray⟩) w := fun w => add_lists _ _ (by omega) (by omega) w
        have a2 : ∀ w, (Op.stringOp .add ⟨(o ++ y).toArray⟩ ⟨#[10]⟩).run Tryz.prog w = .ok (.string ⟨(o ++ y ++ [10]).toArray⟩) w := fun w => add_lists _ [10] (by simp; omega) (by simp) w
        generalize o ++ y = oy at *
        generalize oy ++ [10] = oz at *
        clear hx hr hy
        have h2 := hid h2
        go_wp2_with fail
        refine HL.out.mono ?_
        rintro e w1 ⟨rfl, hd1, hg⟩
        have HD1 := hid hd1
        have HG1 := hid (gr_own HG.out hg (fun g e => by cases e; exact Nat.le_refl _))
        clear hd1 hg
        go_wp2_with fail
        go_roundw
        case rel => exact ⟨k + 1, by omega, by have := h2.out; omega, by go_num, by rw [HR.out], by rw [HDs.out]; exact HD1, HG1⟩
        case measure => simp [intOf]; omega
      · have d2 : decide ((k : Int) < 20) = false := by simp; omega
        have HT := hid (sess_done (ls := ls) (k := k) (.inr (by omega)))
        clear h1 h2
        go_wp2_with fail
        go_ret
        exact ⟨ret_text HT.out, HG.out⟩
    · have d1 : decide (k < n) = false := by simpa using h1
      have HT := hid (sess_done (ls := ls) (k := k) (.inl ⟨by omega, hk20⟩))
      clear h1
      go_wp2_with fail
      go_ret
      exact ⟨ret_text HT.out, HG.out⟩
end Go.Proofs.YtielicmjdhmcjaaGreatDoor

/- Lists of texts: their size, copies, equality. -/
namespace Go.Proofs.YtielicmjdhmcjaaGreatDoor
open Go.RowKit

set_option maxRecDepth 100000 in
set_option maxHeartbeats 400000 in
theorem toStringS_any (a : Option Addr) (n cap : Nat) (xs : List (List UInt8)) (w : World) (hs : Sl strL w a n xs) (hn : n ≤ 1048576) :
    Calls Tryz.prog 11 #[.slice a n cap] w fun e w' => ∃ g, e = .returned (.slice (some ⟨g, 0, none⟩) n n) ∧ Ow strL w' w.heap.size (some ⟨g, 0, none⟩) n xs ∧ w.grownBy w' none := by
  obtain ⟨i0, hi, hz0, hz1, hz2⟩ := infoPtsS infoStr
  have Hs := hid hs; clear hs
  go_enter Tryz.func11, Tryz.ntmps11
  go_wp2_with (at_make; refine wpList_make_full _ rfl _ _ 23 rfl w.heap.size 9 i0 _ 1 Tryz.underlying23 hi hz0 hz1 _ _ _ _ n rfl rfl rfl rfl ?c1 ?c2 ?c3 ?_)
  case c1 => rw [hz2]; omega
  case c2 => unfold maxLen; omega
  case c3 => omega
  intro w1 hown hg
  have how : Ow strL w1 w.heap.size (some ⟨w.heap.size, 0, none⟩) n (List.replicate n []) := Ow.of_made (L := strL) (x0 := []) (by simpa [strL] using hown) (by unfold maxLen; omega)
  clear hown
  have How := hid how; clear how
  have Hg := hid hg; clear hg
  go_wp2_with fail
  go_loopw [4] (fun i wr => ∃ k : Nat, k ≤ n ∧ i = .int .i64 k ∧ Ow strL wr w.heap.size (some ⟨w.heap.size, 0, none⟩) n (xs.take k ++ List.replicate (n - k) []) ∧ w.grownBy wr none) (fun i _ => n - (intOf i).toNat)
  case atStart => exact ⟨0, by omega, rfl, by simpa using How.out, Hg.out⟩
  case round =>
    clear How Hg
    obtain ⟨k, hk, rfl, how, hg⟩ := hrel
    by_cases hlt : k < n
    · obtain ⟨b, off, x, rfl, hxk, h0⟩ := text_at (Hs.out.keep0 hg) k hlt
      have Hxk := hid hxk; clear hxk
      have Hg := hid hg; clear hg
      obtain ⟨b2, off2, z, e2, hz, _, _, hf, hc⟩ := how.at k hlt
      simp only [Option.some.injEq, Addr.mk.injEq, and_true] at e2
      obtain ⟨rfl, rfl⟩ := e2
      have c0 : wr.cell? ⟨w.heap.size, k, none⟩ = some (.string ⟨(z).toArray⟩) := by have := hc 0 _ rfl; simpa [strL] using this
      have f0 : wr.frozen? ⟨w.heap.size, k, none⟩ = false := hf _
      have Hz := hid hz; clear hc hf hz
      have How := hid how; clear how
      go_wp2
      go_roundw
      case rel =>
        refine ⟨k + 1, by omega, by go_num, ?_, gr_setCell Hg.out (.inr (Nat.le_refl _)) _⟩
        have o0 := How.out.set k 0 z x (.string ⟨(x).toArray⟩) Hz.out (by simp [strL]) rfl k (by simp [strL])
        rw [fill_step xs n k x [] Hxk.out Hs.out.len] at o0
        exact o0
      case measure => simp [intOf]; omega
    · have Hg := hid hg; clear hg
      have How := hid how; clear how
      go_wp2
      go_ret
      obtain rfl : k = n := by omega
      exact ⟨_, rfl, by have := How.out; rwa [fill_end _ _ _ Hs.out.len] at this, Hg.out⟩

set_option maxRecDepth 100000 in
set_option maxHeartbeats 400000 in
theorem szStringS_any (a : Option Addr) (n cap : Nat) (xs : List (List UInt8)) (w : World) (hs : Sl strL w a n xs) (hx : ∀ x ∈ xs, x.length ≤ maxLen) :
    Calls Tryz.prog 10 #[.slice a n cap, .int .i64 1048576] w fun e w' => (∃ z : Int, e = .returned (.int .i64 z) ∧ (0 ≤ z → n ≤ 1048576 ∧ ∀ x ∈ xs, x.length ≤ 1048576)) ∧ w' = w := by
  have hbig := hs.big
  unfold maxLen at hbig hx
  have hlen := hs.len
  have Hs := hid hs; clear hs
  have u1 : IntKind.i64.wrap (1048576 - (n : Int)) = 1048576 - (n : Int) := IntWalk.i64_in _ (by omega)
  by_cases h0 : 1048576 < n
  · have hd : decide (1048576 - (n : Int) < 0) = true := by simp; omega
    go_enter Tryz.func10, Tryz.ntmps10
    go_wp2_with fail
    go_ret
    exact ⟨⟨_, rfl, fun h => by omega⟩, rfl⟩
  have hd : decide (1048576 - (n : Int) < 0) = false := by simp; omega
  go_enter Tryz.func10, Tryz.ntmps10
  go_wp2_with fail
  go_loop [1, 5] (fun v i => ∃ (k : Nat) (z : Int), k ≤ n ∧ i = .int .i64 k ∧ v = .int .i64 z ∧ 0 ≤ z ∧ z ≤ 1048576 ∧ Hid (∀ x ∈ xs.take k, x.length ≤ 1048576)) (fun _ i => n - (intOf i).toNat)
  case atStart => exact ⟨0, _, by omega, rfl, rfl, by omega, by omega, hid (by simp)⟩
  case round =>
    obtain ⟨k, z, hk, rfl, rfl, z0, z1, Ha⟩ := hrel
    by_cases hlt : k < n
    · have hd1 : decide (k < n) = true := by simpa using hlt
      obtain ⟨b, off, x, rfl, hxk, hc⟩ := text_at Hs.out k hlt
      have hxl := hx x (List.mem_of_getElem? hxk)
      have u2 : IntKind.i64.wrap (z - (x.length : Int)) = z - (x.length : Int) := IntWalk.i64_in _ (by omega)
      by_cases hz : z < x.length
      · have hd2 : decide (z - (x.length : Int) < 0) = true := by simp; omega
        clear hxk
        go_wp2_with fail
        go_ret
        exact ⟨⟨_, rfl, fun h => by omega⟩, rfl⟩
      · have hd2 : decide (z - (x.length : Int) < 0) = false := by simp; omega
        have HA := hid (show ∀ y ∈ xs.take (k + 1), y.length ≤ 1048576 by
          intro y hy
          rw [take_snoc _ _ _ hxk] at hy
          rcases List.mem_append.1 hy with hy | hy
          · exact Ha.out y hy
          · rw [List.mem_singleton.1 hy]; omega)
        have Hlt := hid hlt
        clear hxk
        go_wp2_with fail
        go_round
        case rel => exact ⟨k + 1, _, by have := Hlt.out; omega, by go_num, rfl, by omega, by omega, HA⟩
        case measure => have := Hlt.out; simp [intOf]; omega
    · have hd1 : decide (k < n) = false := by simpa using hlt
      obtain rfl : k = n := by omega
      rw [List.take_of_length_le (by omega)] at Ha
      clear hlt
      go_wp2_with fail
      go_ret
      exact ⟨⟨_, rfl, fun h => ⟨by omega, Ha.out⟩⟩, rfl⟩

set_option maxRecDepth 100000 in
set_option maxHeartbeats 400000 in
theorem eqStringS_any (a b : Option Addr) (n c1 c2 : Nat) (xs : List (List UInt8)) (w : World) (hs : Sl strL w a n xs) (ht : Sl strL w b n xs) :
    Calls Tryz.prog 12 #[.slice a n c1, .slice b n c2] w fun e w' => e = .returned (.bool true) ∧ w.grownBy w' none := by
  have hbig := hs.big
  unfold maxLen at hbig
  have Hs := hid hs; have Ht := hid ht; clear hs ht
  go_enter Tryz.func12, Tryz.ntmps12
  go_wp2_with fail
  go_loopw [5] (fun i wr => ∃ k : Nat, k ≤ n ∧ i = .int .i64 k ∧ Hid (w.grownBy wr none)) (fun i _ => n - (intOf i).toNat)
  case atStart => exact ⟨0, by omega, rfl, hid (gr_refl _ _)⟩
  case round =>
    obtain ⟨k, hk, rfl, Hg⟩ := hrel
    by_cases hlt : k < n
    · have hd1 : decide (k < n) = true := by simpa using hlt
      obtain ⟨b1, o1, x, rfl, hx, h1⟩ := text_at (Hs.out.keep0 Hg.out) k hlt
      obtain ⟨b2, o2, y, rfl, hy, h2⟩ := text_at (Ht.out.keep0 Hg.out) k hlt
      obtain rfl : x = y := by rw [hx] at hy; exact Option.some.inj hy
      have hq : (x != x) = false := by simp
      have Hlt := hid hlt
      clear hx hy
      go_wp2_with fail
      refine wp_region_held_drew (S := fun w' => wr.grownBy w' none) (by kernel_rfl) (gr_drew (gr_refl _ _)) (fun hHeld => ?_)
      refine wpAnyH_take (i := 0) (v := ?_) rfl (by kernel_rfl) (by kernel_rfl) (by kernel_rfl) (fun _ _ _ h => h) (Or.inl ⟨by rfl, ?_⟩) hHeld ?_
      rotate_left
      · intro w9 hSw
        (have h3 := hSw.cell h1 (by simp); have h4 := hSw.cell h2 (by simp); clear hSw)
        go_simp
        all_goals (try with_reducible rfl)
      (try simp only [Act.put, gA, gC, gD, gE, gF])
      refine wpAnyH_take (i := 1) (v := ?_) rfl (by kernel_rfl) (by kernel_rfl) (by kernel_rfl) (fun _ _ _ h => h) (Or.inl ⟨by rfl, ?_⟩) hHeld ?_
      rotate_left
      · intro w9 hSw
        (have h3 := hSw.cell h1 (by simp); have h4 := hSw.cell h2 (by simp); clear hSw)
        go_simp
        all_goals (try with_reducible rfl)
      (try simp only [Act.put, gA, gB, gC, gD, gE, gF])
      refine wpAnyH_take (i := 2) (v := ?_) rfl (by kernel_rfl) (by kernel_rfl) (by kernel_rfl) (fun _ _ _ h => h) (Or.inl ⟨by rfl, ?_⟩) hHeld ?_
      rotate_left
      · intro w9 hSw
        (have h3 := hSw.cell h1 (by simp); have h4 := hSw.cell h2 (by simp); clear hSw)
        go_simp
        all_goals (try with_reducible rfl)
      (try simp only [Act.put, gA, gB, gC, gD, gE, gF])
      refine wpAnyH_take (i := 3) (v := ?_) rfl (by kernel_rfl) (by kernel_rfl) (by kernel_rfl) (fun _ _ _ h => h) (Or.inl ⟨by rfl, ?_⟩) hHeld ?_
      rotate_left
      · intro w9 hSw
        (have h3 := hSw.cell h1 (by simp); have h4 := hSw.cell h2 (by simp); clear hSw)
        go_simp
        all_goals (try with_reducible rfl)
      (try simp only [Act.put, gA, gB, gC, gD, gE, gF])
      refine wpAnyH_take (i := 4) (v := ?_) rfl (by kernel_rfl) (by kernel_rfl) (by kernel_rfl) (fun _ _ _ h => h) (Or.inl ⟨by rfl, ?_⟩) hHeld ?_
      rotate_left
      · intro w9 hSw
        (have h3 := hSw.cell h1 (by simp); have h4 := hSw.cell h2 (by simp); clear hSw)
        go_simp
        all_goals (try with_reducible rfl)
      (try simp only [Act.put, gA, gB, gC, gD, gE, gF])
      refine wpAnyH_take (i := 5) (v := ?_) rfl (by kernel_rfl) (by kernel_rfl) (by kernel_rfl) (fun _ _ _ h => h) (Or.inl ⟨by rfl, ?_⟩) hHeld ?_
      rotate_left
      · intro w9 hSw
        (have h3 := hSw.cell h1 (by simp); have h4 := hSw.cell h2 (by simp); clear hSw)
        go_simp
        all_goals (try with_reducible rfl)
      (try simp only [Act.put, gA, gB, gC, gD, gE, gF])
      refine wpAnyH_take (i := 6) (v := ?_) rfl (by kernel_rfl) (by kernel_rfl) (by kernel_rfl) (fun _ _ _ h => h) (Or.inl ⟨by rfl, ?_⟩) hHeld ?_
      rotate_left
      · intro w9 hSw
        (have h3 := hSw.cell h1 (by simp); have h4 := hSw.cell h2 (by simp); clear hSw)
        go_simp
        all_goals (try with_reducible rfl)
      (try simp only [Act.put, gA, gB, gC, gD, gE, gF])
      refine wpAnyH_take (i := 7) (v := ?_) rfl (by kernel_rfl) (by kernel_rfl) (by kernel_rfl) (fun _ _ _ h => h) (Or.inl ⟨by rfl, ?_⟩) hHeld ?_
      rotate_left
      · intro w9 hSw
        (have h3 := hSw.cell h1 (by simp); have h4 := hSw.cell h2 (by simp); clear hSw)
        go_simp
        all_goals (try with_reducible rfl)
      (try simp only [Act.put, gA, gB, gC, gD, gE, gF])
      refine wpAnyH_take (i := 8) (v := ?_) rfl (by kernel_rfl) (by kernel_rfl) (by kernel_rfl) (fun _ _ _ h => h) (Or.inl ⟨by rfl, ?_⟩) hHeld ?_
      rotate_left
      · intro w9 hSw
        (have h3 := hSw.cell h1 (by simp); have h4 := hSw.cell h2 (by simp); clear hSw)
        go_simp
        all_goals (try with_reducible rfl)
      (try simp only [Act.put, gA, gB, gC, gD, gE, gF])
      refine wpAnyH_done (by kernel_rfl) ?_ _
      have Hg2 := hid (gr_trans0 Hg.out hHeld)
      clear hHeld
      go_wp2_with fail
      go_roundw
      case rel => exact ⟨k + 1, by have := Hlt.out; omega, by go_num, Hg2⟩
      case measure => have := Hlt.out; simp [intOf]; omega
    · have hd1 : decide (k < n) = false := by simpa using hlt
      clear hlt
      go_wp2_with fail
      go_ret
      exact ⟨rfl, Hg.out⟩
end Go.Proofs.YtielicmjdhmcjaaGreatDoor

/- Packed: SpecSched. -/
import Derived.Test.YtielicmjdhmcjaaGreatDoorRows
import Derived.Test.YtielicmjdhmcjaaGreatDoorPk17
import Derived.Test.YtielicmjdhmcjaaGreatDoorPk16
import Derived.Deep.AppendLies
/- The reference's schedule and ScheduleOf, walked. -/
namespace Go.Proofs.YtielicmjdhmcjaaGreatDoor
open Go.RowKit

theorem Ow.own_ints2 {w : World} {base : Nat} {a : Option Addr} {n cap e : Nat} {xs : List Int} (h : w.ownsRow base e 1 (.slice a n cap) n (xs.flatMap intL.cells)) (hm : n ≤ 1048576) : Ow intL w base a n xs := by
  have hl : xs.length = n := by
    have := h.1
    rw [flat_len] at this
    simpa [intL] using this
  exact Ow.of_own (by simpa [intL] using h) hl (by unfold maxLen; omega)

def frmR (s e m : Int) (t : Nat) : Int := if t = 0 then s else backA e m (cnt s e m - t)
def perR (s e m : Int) (t : Nat) : Per := ⟨frmR s e m t, backA e m (cnt s e m - 1 - t), backA e m (cnt s e m - t) == frmR s e m t⟩
def schedR (s e m : Int) : List Per := (List.range (cnt s e m)).map (perR s e m)

theorem schedR_eq (s e m : Int) (h : cnt s e m ≤ 40) : schedR s e m = schedL s e m := by
  have ho := cnt_out s e m h
  apply List.ext_getElem?
  intro t
  by_cases ht : t < cnt s e m
  · rw [sched_at s e m t ht]
    unfold schedR
    rw [List.getElem?_map, List.getElem?_range ht, Option.map_some]
    congr 1
    unfold perR perOf
    rw [show cnt s e m - 1 - t + 1 = cnt s e m - t by omega]
    by_cases h0 : t = 0
    · subst h0
      unfold frmR
      simp only [if_true, Nat.sub_zero]
      rw [show max (backA e m (cnt s e m)) s = s by omega]
      congr 1
      rw [Bool.eq_iff_iff]
      simp only [beq_iff_eq, decide_eq_true_eq]
      omega
    · have hi := cnt_in s e m (cnt s e m - t) (by omega)
      unfold frmR
      rw [if_neg h0, show max (backA e m (cnt s e m - t)) s = backA e m (cnt s e m - t) by omega, decide_eq_true (show s ≤ backA e m (cnt s e m - t) by omega)]
      simp
  · rw [List.getElem?_eq_none (by unfold schedR; simp; omega), List.getElem?_eq_none (by rw [sched_len]; omega)]

def daysR (e m : Int) (k : Nat) : List Int := (List.range k).map (backA e m)
theorem daysR_succ (e m : Int) (k : Nat) : daysR e m (k + 1) = daysR e m k ++ [backA e m k] := by simp [daysR, List.range_succ]
theorem daysR_len (e m : Int) (k : Nat) : (daysR e m k).length = k := by simp [daysR]
theorem daysR_at (e m : Int) (k i : Nat) (h : i < k) : (daysR e m k)[i]? = some (backA e m i) := by unfold daysR; rw [List.getElem?_map, List.getElem?_range h]; rfl

set_option maxRecDepth 100000 in
set_option maxHeartbeats 2000000 in
theorem specschedule_any (s e m : Int) (w : World) (hsp : spanB s e m = true) :
    Calls Tryz.prog 101 #[.int .i64 s, .int .i64 e, .int .i64 m] w fun e' w' => ∃ a cap, e' = .returned (.slice a (cnt s e m) cap) ∧ Ow perL w' w.heap.size a (cnt s e m) (schedR s e m) ∧ cnt s e m ≤ cap ∧ w.grownBy w' none := by
  obtain ⟨i0, hi, hz0, hz1, hz2⟩ := info_parts infoInt
  obtain ⟨j0, ji, jz0, jz1, jz2⟩ := info_parts infoPer
  obtain ⟨s0, se, e1, mm⟩ := span_facts hsp
  have hm1 : 1 ≤ m := by omega
  have hm12 : m ≤ 12 := by omega
  have hAb := hid (fun k : Nat => back_bd e m k (by omega) e1)
  have hA : (w.alloc (Obj.cells #[] 3)).ownsRow w.heap.size 3 1 (.slice (some ⟨w.heap.size, 0, none⟩) 0 0) 0 (([] : List Int).flatMap intL.cells) := World.ownsRow_made w #[] 0 (Nat.le_refl _) (by decide) rfl
  have HA := hid hA; clear hA
  clear mm
  go_enter Tryz.func101, Tryz.ntmps101
  go_wp2_with fail
  go_loopw [7, 8] (fun p i wr => ∃ (k pg pc : Nat), k ≤ 41 ∧ i = .int .i64 k ∧ p = .slice (some ⟨pg, 0, none⟩) k pc ∧ Hid (∀ j, j < k → s < backA e m j) ∧ wr.ownsRow w.heap.size 3 1 (.slice (some ⟨pg, 0, none⟩) k pc) k ((daysR e m k).flatMap intL.cells) ∧ w.grownBy wr none) (fun _ i _ => 41 - (intOf i).toNat)
  case atStart => exact ⟨0, w.heap.size, 0, by omega, rfl, rfl, hid (fun j hj => by omega), by simpa [daysR] using HA.out, gr_alloc (gr0 _) _⟩
  case round =>
    clear HA
    obtain ⟨k, pg, pc, hk, rfl, rfl, Hall, hp, hg⟩ := hrel
    have Hp := hid hp; have Hg := hid hg
    clear hp hg
    by_cases hlt : k < 41
    · have hk40 : (k : Int) ≤ 40 := by omega
      have hp0 : 0 ≤ (k : Int) * m := Int.mul_nonneg (by omega) (by omega)
      have hp1 : (k : Int) * m ≤ 40 * 12 := by
        have h9 : (k : Int) * m ≤ k * 12 := Int.mul_le_mul_of_nonneg_left hm12 (by omega)
        omega
      have Hn : Hid (-(k : Int) * m = -((k : Int) * m)) := hid (Int.neg_mul _ _)
      have hq0 : -480 ≤ -(k : Int) * m := by rw [Hn.out]; omega
      have hq1 : -(k : Int) * m ≤ 0 := by rw [Hn.out]; omega
      have Hback : Hid (addM e (-((k : Int) * m)) = backA e m k) := hid rfl
      have hbb := hAb.out k
      go_wp2_with fail
      refine (specaddMonths_any e (-(k : Int) * m) wr (by omega) e1 (by omega) (by omega)).mono ?_
      rintro e' w2 ⟨rfl, hg2⟩
      rw [Hn.out, Hback.out]
      have Hg2 := hid (gr_trans0 Hg.out hg2)
      have Hp2 := hid (own_keep0 Hp.out hg2)
      clear hg2 hq0 hq1 hp0 hp1
      by_cases hc : backA e m k ≤ s
      · have hcnt : cnt s e m = k := cnt_of s e m k hk Hall.out (.inr hc)
        have hk1 : 1 ≤ k := by rw [← hcnt]; exact cnt_pos hsp
        have Hcnt := hid hcnt
        generalize backA e m k = b at *
        clear hcnt
        have hB2 : w.grownBy w2 none := Hg2.out
        have HD := hid (Ow.own_ints2 Hp2.out (by omega))
        have hA2 : (w2.alloc (Obj.cells #[] 115)).ownsRow w2.heap.size 115 3 (.slice (some ⟨w2.heap.size, 0, none⟩) 0 0) 0 (([] : List Per).flatMap perL.cells) := World.ownsRow_made w2 #[] 0 (Nat.le_refl _) (by decide) rfl
        have HA2 := hid hA2; clear hA2
        have hsz2 := hB2.size
        have HW := hid hB2; clear hB2
        obtain ⟨wz, hwz⟩ : ∃ wz : World, wz = w2 := ⟨_, rfl⟩
        rw [← hwz] at HW HD HA2 hsz2 ⊢
        clear hwz
        go_wp2_with fail
        go_loopw [10, 11, 12] (fun o f i wr => ∃ (t qg qc : Nat), t ≤ k ∧ i = .int .i64 ((k : Int) - 1 - t) ∧ f = .int .i64 (frmR s e m t) ∧ o = .slice (some ⟨qg, 0, none⟩) t qc ∧ wr.ownsRow wz.heap.size 115 3 (.slice (some ⟨qg, 0, none⟩) t qc) t (((List.range t).map (perR s e m)).flatMap perL.cells) ∧ wz.grownBy wr none) (fun _ _ i _ => (intOf i + 1).toNat)
        case atStart => exact ⟨0, wz.heap.size, 0, by omega, by simp, by unfold frmR; rw [if_pos rfl], rfl, by simpa using HA2.out, gr_alloc (gr0 _) _⟩
        case round =>
          clear HA2
          obtain ⟨t, qg, qc, ht, rfl, rfl, rfl, ho, hgz⟩ := hrel
          have Ho := hid ho; have Hgz := hid hgz
          clear ho hgz
          by_cases htk : t < k
          · obtain ⟨j, hj⟩ : ∃ j : Nat, t + j + 1 = k := ⟨k - 1 - t, by omega⟩
            rw [show (k : Int) - 1 - t = j by omega]
            have hp0 : 0 ≤ ((j : Int) + 1) * m := Int.mul_nonneg (by omega) (by omega)
            have hp1 : ((j : Int) + 1) * m ≤ 41 * 12 := by
              have h9 : ((j : Int) + 1) * m ≤ ((j : Int) + 1) * 12 := Int.mul_le_mul_of_nonneg_left hm12 (by omega)
              omega
            have Hn2 : Hid (-((j : Int) + 1) * m = -(((j + 1 : Nat) : Int) * m)) := hid (by rw [Int.neg_mul]; push_cast; rfl)
            have hq0 : -492 ≤ -((j : Int) + 1) * m := by rw [Int.neg_mul]; omega
            have hq1 : -((j : Int) + 1) * m ≤ 0 := by rw [Int.neg_mul]; omega
            have Hb1 : Hid (addM e (-(((j + 1 : Nat) : Int) * m)) = backA e m (j + 1)) := hid rfl
            have hj0 : (0 : Int) ≤ (j : Int) := by omega
            go_wp2_with fail
            refine (specaddMonths_any e (-((j : Int) + 1) * m) wr (by omega) e1 (by omega) (by omega)).mono ?_
            rintro e' w7 ⟨rfl, hg7⟩
            rw [Hn2.out, Hb1.out]
            have Hg7 := hid (gr_trans0 Hgz.out hg7)
            have Ho7 := hid (own_keep0 Ho.out hg7)
            obtain ⟨b3, o3, z, e3, hz, cz⟩ := int_at (HD.out.sl.keep0 Hg7.out) j (by omega)
            cases e3
            rw [daysR_at e m k j (by omega)] at hz
            obtain rfl := Option.some.inj hz
            simp only [Nat.zero_add] at cz
            have HP : Hid (perR s e m t = ⟨frmR s e m t, backA e m j, backA e m (j + 1) == frmR s e m t⟩) := hid (by
              unfold perR; rw [Hcnt.out, show k - 1 - t = j by omega, show k - t = j + 1 by omega])
            have HF : Hid (frmR s e m (t + 1) = backA e m j) := hid (by
              unfold frmR; rw [if_neg (by omega), Hcnt.out, show k - (t + 1) = j by omega])
            have Hdj := hid (daysR_at e m k j (by omega))
            generalize hwh : (backA e m (j + 1) == frmR s e m t) = wh at *
            generalize frmR s e m t = F at *
            generalize backA e m (j + 1) = A1 at *
            generalize backA e m j = A0 at *
            have hqB := (Ho7.out.lt qg rfl)
            have hi1 : (j : Int) < k := by omega
            clear hg7 hz hq0 hq1 hp0 hp1
            go_wp2_with (at_builtin; go_must (refine wpList_append_lies _ rfl _ _ _ rfl wz.heap.size 115 j0 _ 3 24 Tryz.underlying111 ji jz0 jz1 jz2 rfl (by decide) _ _ _ rfl (Ho7.out.alloc _) ⟨w7.heap.size, 0, none⟩ 1 1 [.int .i64 F, .int .i64 A0, .bool wh] rfl rfl (cells_new w7 _ _ _ rfl) ?d2 (by decide) ?d3 ?d4 ?d5 _ rfl ?_))
            case d2 => simp [Value.oneCell']
            case d3 => unfold maxLen; omega
            case d4 => omega
            case d5 => have := Hg7.out.size; simp; omega
            intro qg' qc' w8 ho8 hgo8 hat8 hlt8
            have hg8 : wz.grownBy w8 none := gr_own (gr_alloc Hg7.out _) hgo8 (fun g e => by simp [Value.ownBlock] at e; omega)
            have Ho8 := hid ho8; have Hg8 := hid hg8
            obtain ⟨b3, o3, z, e3, hz, cz8⟩ := int_at (HD.out.sl.keep0 hg8) j (by omega)
            cases e3
            rw [Hdj.out] at hz
            obtain rfl := Option.some.inj hz
            simp only [Nat.zero_add] at cz8
            have Hwh := hid hwh
            clear hz ho8 hgo8 hat8 hg8 hwh cz
            go_wp2_with fail
            go_roundw
            case rel =>
              refine ⟨t + 1, qg', qc', by omega, by congr 1; omega, by rw [HF.out], rfl, ?_, Hg8.out⟩
              rw [List.range_succ, List.map_append, List.flatMap_append, show List.map (perR s e m) [t] = [perR s e m t] from rfl, HP.out]
              exact Ho8.out
            case measure => simp [intOf] <;> omega
          · obtain rfl : t = k := by omega
            rw [show (t : Int) - 1 - t = -1 by omega]
            have how := Ow.of_own (L := perL) (cap := qc) Ho.out (by simp) (by unfold maxLen; omega)
            have hqc : t ≤ qc := by
              rcases Ho.out.2 with ⟨e9, _⟩ | ⟨g9, cap9, cur, e9, _, _, h7, _⟩
              · cases e9
              · cases e9; exact h7
            have How := hid how
            clear how
            go_wp2_with fail
            go_ret
            refine ⟨some ⟨qg, 0, none⟩, qc, by rw [Hcnt.out]; rfl, ?_, by rw [Hcnt.out]; exact hqc, gr_trans0 HW.out Hgz.out⟩
            unfold schedR
            rw [Hcnt.out]
            exact How.out.mono hsz2
      · have Hall2 : Hid (∀ j, j < k + 1 → s < backA e m j) := hid (fun j hj => by
          by_cases hjk : j = k
          · subst hjk; omega
          · exact Hall.out j (by omega))
        generalize hbk : backA e m k = b at *
        have Hbk := hid hbk
        clear hbk
        have hpB := (Hp2.out.lt pg rfl)
        go_wp2_with (at_builtin; go_must (refine wpList_append_lies _ rfl _ _ _ rfl w.heap.size 3 i0 _ 1 8 Tryz.underlying66 hi hz0 hz1 hz2 rfl (by decide) _ _ _ rfl (Hp2.out.alloc _) ⟨w2.heap.size, 0, none⟩ 1 1 [.int .i64 b] rfl rfl (cells_new w2 _ _ _ rfl) ?d2 (by decide) ?d3 ?d4 ?d5 _ rfl ?_))
        case d2 => simp [Value.oneCell']
        case d3 => unfold maxLen; omega
        case d4 => omega
        case d5 => simp; omega
        intro pg' pc' w5 ho5 hgo5 hat5 hlt5
        have hg5 : w.grownBy w5 none := gr_own (gr_alloc Hg2.out _) hgo5 (fun g e => by simp [Value.ownBlock] at e; omega)
        have Ho5 := hid ho5; have Hg5 := hid hg5
        clear ho5 hgo5 hat5 hg5
        go_wp2_with fail
        go_roundw
        case rel => exact ⟨k + 1, pg', pc', by omega, by go_num, rfl, Hall2, by rw [daysR_succ, Hbk.out, List.flatMap_append]; exact Ho5.out, Hg5.out⟩
        case measure => simp [intOf]; omega
    · have hcnt : cnt s e m = k := cnt_of s e m k hk Hall.out (.inl (by omega))
      have hk1 : 1 ≤ k := by omega
      have Hcnt := hid hcnt
      have Hp2 := Hp; have Hg2 := Hg
      clear hcnt
      have hB2 : w.grownBy wr none := Hg2.out
      have HD := hid (Ow.own_ints2 Hp2.out (by omega))
      have hA2 : (wr.alloc (Obj.cells #[] 115)).ownsRow wr.heap.size 115 3 (.slice (some ⟨wr.heap.size, 0, none⟩) 0 0) 0 (([] : List Per).flatMap perL.cells) := World.ownsRow_made wr #[] 0 (Nat.le_refl _) (by decide) rfl
      have HA2 := hid hA2; clear hA2
      have hsz2 := hB2.size
      have HW := hid hB2; clear hB2
      obtain ⟨wz, hwz⟩ : ∃ wz : World, wz = wr := ⟨_, rfl⟩
      rw [← hwz] at HW HD HA2 hsz2 ⊢
      clear hwz
      go_wp2_with fail
      go_loopw [10, 11, 12] (fun o f i wr => ∃ (t qg qc : Nat), t ≤ k ∧ i = .int .i64 ((k : Int) - 1 - t) ∧ f = .int .i64 (frmR s e m t) ∧ o = .slice (some ⟨qg, 0, none⟩) t qc ∧ wr.ownsRow wz.heap.size 115 3 (.slice (some ⟨qg, 0, none⟩) t qc) t (((List.range t).map (perR s e m)).flatMap perL.cells) ∧ wz.grownBy wr none) (fun _ _ i _ => (intOf i + 1).toNat)
      case atStart => exact ⟨0, wz.heap.size, 0, by omega, by simp, by unfold frmR; rw [if_pos rfl], rfl, by simpa using HA2.out, gr_alloc (gr0 _) _⟩
      case round =>
        clear HA2
        obtain ⟨t, qg, qc, ht, rfl, rfl, rfl, ho, hgz⟩ := hrel
        have Ho := hid ho; have Hgz := hid hgz
        clear ho hgz
        by_cases htk : t < k
        · obtain ⟨j, hj⟩ : ∃ j : Nat, t + j + 1 = k := ⟨k - 1 - t, by omega⟩
          rw [show (k : Int) - 1 - t = j by omega]
          have hp0 : 0 ≤ ((j : Int) + 1) * m := Int.mul_nonneg (by omega) (by omega)
          have hp1 : ((j : Int) + 1) * m ≤ 41 * 12 := by
            have h9 : ((j : Int) + 1) * m ≤ ((j : Int) + 1) * 12 := Int.mul_le_mul_of_nonneg_left hm12 (by omega)
            omega
          have Hn2 : Hid (-((j : Int) + 1) * m = -(((j + 1 : Nat) : Int) * m)) := hid (by rw [Int.neg_mul]; push_cast; rfl)
          have hq0 : -492 ≤ -((j : Int) + 1) * m := by rw [Int.neg_mul]; omega
          have hq1 : -((j : Int) + 1) * m ≤ 0 := by rw [Int.neg_mul]; omega
          have Hb1 : Hid (addM e (-(((j + 1 : Nat) : Int) * m)) = backA e m (j + 1)) := hid rfl
          have hj0 : (0 : Int) ≤ (j : Int) := by omega
          go_wp2_with fail
          refine (specaddMonths_any e (-((j : Int) + 1) * m) wr (by omega) e1 (by omega) (by omega)).mono ?_
          rintro e' w7 ⟨rfl, hg7⟩
          rw [Hn2.out, Hb1.out]
          have Hg7 := hid (gr_trans0 Hgz.out hg7)
          have Ho7 := hid (own_keep0 Ho.out hg7)
          obtain ⟨b3, o3, z, e3, hz, cz⟩ := int_at (HD.out.sl.keep0 Hg7.out) j (by omega)
          cases e3
          rw [daysR_at e m k j (by omega)] at hz
          obtain rfl := Option.some.inj hz
          simp only [Nat.zero_add] at cz
          have HP : Hid (perR s e m t = ⟨frmR s e m t, backA e m j, backA e m (j + 1) == frmR s e m t⟩) := hid (by
            unfold perR; rw [Hcnt.out, show k - 1 - t = j by omega, show k - t = j + 1 by omega])
          have HF : Hid (frmR s e m (t + 1) = backA e m j) := hid (by
            unfold frmR; rw [if_neg (by omega), Hcnt.out, show k - (t + 1) = j by omega])
          have Hdj := hid (daysR_at e m k j (by omega))
          generalize hwh : (backA e m (j + 1) == frmR s e m t) = wh at *
          generalize frmR s e m t = F at *
          generalize backA e m (j + 1) = A1 at *
          generalize backA e m j = A0 at *
          have hqB := (Ho7.out.lt qg rfl)
          have hi1 : (j : Int) < k := by omega
          clear hg7 hz hq0 hq1 hp0 hp1
          go_wp2_with (at_builtin; go_must (refine wpList_append_lies _ rfl _ _ _ rfl wz.heap.size 115 j0 _ 3 24 Tryz.underlying111 ji jz0 jz1 jz2 rfl (by decide) _ _ _ rfl (Ho7.out.alloc _) ⟨w7.heap.size, 0, none⟩ 1 1 [.int .i64 F, .int .i64 A0, .bool wh] rfl rfl (cells_new w7 _ _ _ rfl) ?d2 (by decide) ?d3 ?d4 ?d5 _ rfl ?_))
          case d2 => simp [Value.oneCell']
          case d3 => unfold maxLen; omega
          case d4 => omega
          case d5 => have := Hg7.out.size; simp; omega
          intro qg' qc' w8 ho8 hgo8 hat8 hlt8
          have hg8 : wz.grownBy w8 none := gr_own (gr_alloc Hg7.out _) hgo8 (fun g e => by simp [Value.ownBlock] at e; omega)
          have Ho8 := hid ho8; have Hg8 := hid hg8
          obtain ⟨b3, o3, z, e3, hz, cz8⟩ := int_at (HD.out.sl.keep0 hg8) j (by omega)
          cases e3
          rw [Hdj.out] at hz
          obtain rfl := Option.some.inj hz
          simp only [Nat.zero_add] at cz8
          have Hwh := hid hwh
          clear hz ho8 hgo8 hat8 hg8 hwh cz
          go_wp2_with fail
          go_roundw
          case rel =>
            refine ⟨t + 1, qg', qc', by omega, by congr 1; omega, by rw [HF.out], rfl, ?_, Hg8.out⟩
            rw [List.range_succ, List.map_append, List.flatMap_append, show List.map (perR s e m) [t] = [perR s e m t] from rfl, HP.out]
            exact Ho8.out
          case measure => simp [intOf] <;> omega
        · obtain rfl : t = k := by omega
          rw [show (t : Int) - 1 - t = -1 by omega]
          have how := Ow.of_own (L := perL) (cap := qc) Ho.out (by simp) (by unfold maxLen; omega)
          have hqc : t ≤ qc := by
            rcases Ho.out.2 with ⟨e9, _⟩ | ⟨g9, cap9, cur, e9, _, _, h7, _⟩
            · cases e9
            · cases e9; exact h7
          have How := hid how
          clear how
          go_wp2_with fail
          go_ret
          refine ⟨some ⟨qg, 0, none⟩, qc, by rw [Hcnt.out]; rfl, ?_, by rw [Hcnt.out]; exact hqc, gr_trans0 HW.out Hgz.out⟩
          unfold schedR
          rw [Hcnt.out]
          exact How.out.mono hsz2

theorem validSpan_any (s e m : Int) (w : World) :
    Calls Tryz.prog 105 #[.int .i64 s, .int .i64 e, .int .i64 m] w fun e' w' => e' = .returned (.bool (spanB s e m)) ∧ w = w' := by
  have hsb : spanB s e m = (withinB s 0 36524 && withinB e (s + 1) 36524 && (decide (m = 1) || decide (m = 3) || decide (m = 6) || decide (m = 12))) := by
    rw [Bool.eq_iff_iff]
    unfold spanB withinB
    simp only [Bool.and_eq_true, Bool.or_eq_true, decide_eq_true_eq]
    omega
  have Hsb := hid hsb; clear hsb
  by_cases d1 : withinB s 0 36524 = true
  · have d1b := (within_iff' _ _ _).1 d1
    by_cases d2 : withinB e (s + 1) 36524 = true
    · have Hm := hid (show (decide (m = 1) || decide (m = 3) || decide (m = 6) || decide (m = 12)) = spanB s e m by rw [Hsb.out, d1, d2]; rfl)
      by_cases m1 : m = 1
      · have b1 : (m == 1) = true := by simpa using m1
        have H := hid (show spanB s e m = true by rw [← Hm.out, decide_eq_true m1]; rfl)
        clear m1
        go_enter Tryz.func105, Tryz.ntmps105
        go_wp2_with fail
        refine (inRange_any _ _ _ _).mono ?_
        rintro e' w1 ⟨rfl, rfl⟩
        rw [d1]
        go_wp2_with fail
        refine (inRange_any _ _ _ _).mono ?_
        rintro e' w1 ⟨rfl, rfl⟩
        rw [d2]
        go_wp2
        go_ret
        exact ⟨ret_bool H.out.symm, rfl⟩
      · have b1 : (m == 1) = false := by simpa using m1
        by_cases m3 : m = 3
        · have b3 : (m == 3) = true := by simpa using m3
          have H := hid (show spanB s e m = true by rw [← Hm.out, decide_eq_true m3]; simp)
          clear m1 m3
          go_enter Tryz.func105, Tryz.ntmps105
          go_wp2_with fail
          refine (inRange_any _ _ _ _).mono ?_
          rintro e' w1 ⟨rfl, rfl⟩
          rw [d1]
          go_wp2_with fail
          refine (inRange_any _ _ _ _).mono ?_
          rintro e' w1 ⟨rfl, rfl⟩
          rw [d2]
          go_wp2
          go_ret
          exact ⟨ret_bool H.out.symm, rfl⟩
        · have b3 : (m == 3) = false := by simpa using m3
          by_cases m6 : m = 6
          · have b6 : (m == 6) = true := by simpa using m6
            have H := hid (show spanB s e m = true by rw [← Hm.out, decide_eq_true m6]; simp)
            clear m1 m3 m6
            go_enter Tryz.func105, Tryz.ntmps105
            go_wp2_with fail
            refine (inRange_any _ _ _ _).mono ?_
            rintro e' w1 ⟨rfl, rfl⟩
            rw [d1]
            go_wp2_with fail
            refine (inRange_any _ _ _ _).mono ?_
            rintro e' w1 ⟨rfl, rfl⟩
            rw [d2]
            go_wp2
            go_ret
            exact ⟨ret_bool H.out.symm, rfl⟩
          · have b6 : (m == 6) = false := by simpa using m6
            have H := hid (show spanB s e m = (m == 12) by rw [← Hm.out, decide_eq_false m1, decide_eq_false m3, decide_eq_false m6]; rfl)
            clear m1 m3 m6
            go_enter Tryz.func105, Tryz.ntmps105
            go_wp2_with fail
            refine (inRange_any _ _ _ _).mono ?_
            rintro e' w1 ⟨rfl, rfl⟩
            rw [d1]
            go_wp2_with fail
            refine (inRange_any _ _ _ _).mono ?_
            rintro e' w1 ⟨rfl, rfl⟩
            rw [d2]
            go_wp2
            go_ret
            exact ⟨ret_bool H.out.symm, rfl⟩
    · have d2 : withinB e (s + 1) 36524 = false := by simpa using d2
      have H := hid (show spanB s e m = false by rw [Hsb.out, d1, d2]; rfl)
      go_enter Tryz.func105, Tryz.ntmps105
      go_wp2_with fail
      refine (inRange_any _ _ _ _).mono ?_
      rintro e' w1 ⟨rfl, rfl⟩
      rw [d1]
      go_wp2_with fail
      refine (inRange_any _ _ _ _).mono ?_
      rintro e' w1 ⟨rfl, rfl⟩
      rw [d2]
      go_wp2
      go_ret
      exact ⟨ret_bool H.out.symm, rfl⟩
  · have d1 : withinB s 0 36524 = false := by simpa using d1
    have H := hid (show spanB s e m = false by rw [Hsb.out, d1]; rfl)
    go_enter Tryz.func105, Tryz.ntmps105
    go_wp2_with fail
    refine (inRange_any _ _ _ _).mono ?_
    rintro e' w1 ⟨rfl, rfl⟩
    rw [d1]
    go_wp2
    go_ret
    exact ⟨ret_bool H.out.symm, rfl⟩

set_option maxHeartbeats 400000 in
theorem specScheduleOf_any (s e m : Int) (w : World) :
    Calls Tryz.prog 106 #[.int .i64 s, .int .i64 e, .int .i64 m] w fun e' w' => ∃ a n cap, e' = .returned (.slice a n cap) ∧ Ow perL w' w.heap.size a n (schedF s e m) ∧ n ≤ cap ∧ w.grownBy w' none := by
  by_cases hsp : spanB s e m = true
  · have hc41 := cnt_le s e m
    have HL := hid (schedR_eq s e m)
    have hq := cnt_pos hsp
    by_cases hc : cnt s e m ≤ 40
    · have Hfin := hid (show schedF s e m = schedR s e m by unfold schedF schedOk; rw [hsp, HL.out hc]; simp; intro h; omega)
      have HS := hid (specschedule_any s e m w hsp)
      generalize cnt s e m = q at *
      go_enter Tryz.func106, Tryz.ntmps106
      go_wp2_with fail
      refine (validSpan_any s e m w).mono ?_
      rintro e' w1 ⟨rfl, rfl⟩
      rw [hsp]
      go_wp2_with fail
      refine HS.out.mono ?_
      rintro e' w1 ⟨a, cap, rfl, ho, hcap, hg⟩
      have Ho := hid ho; have Hg := hid hg
      clear ho hg
      go_wp2_with fail
      go_ret
      exact ⟨a, q, cap, rfl, by rw [Hfin.out]; exact Ho.out, hcap, Hg.out⟩
    · have Hfin := hid (show schedF s e m = [] by unfold schedF schedOk; rw [hsp]; simp; omega)
      have HS := hid (specschedule_any s e m w hsp)
      generalize cnt s e m = q at *
      go_enter Tryz.func106, Tryz.ntmps106
      go_wp2_with fail
      refine (validSpan_any s e m w).mono ?_
      rintro e' w1 ⟨rfl, rfl⟩
      rw [hsp]
      go_wp2_with fail
      refine HS.out.mono ?_
      rintro e' w1 ⟨a, cap, rfl, ho, hcap, hg⟩
      have Ho := hid ho; have Hg := hid hg
      clear ho hg
      go_wp2_with fail
      go_ret
      exact ⟨none, 0, 0, rfl, by rw [Hfin.out]; exact Ow.nil _ _ _ _, Nat.le_refl _, Hg.out⟩
  · have hsp2 : spanB s e m = false := by simpa using hsp
    have Hfin := hid (show schedF s e m = [] by unfold schedF schedOk; rw [hsp2]; rfl)
    clear hsp
    go_enter Tryz.func106, Tryz.ntmps106
    go_wp2_with fail
    refine (validSpan_any s e m w).mono ?_
    rintro e' w1 ⟨rfl, rfl⟩
    rw [hsp2]
    go_wp2_with fail
    go_ret
    exact ⟨none, 0, 0, rfl, by rw [Hfin.out]; exact Ow.nil _ _ _ _, Nat.le_refl _, gr_refl _ _⟩

end Go.Proofs.YtielicmjdhmcjaaGreatDoor

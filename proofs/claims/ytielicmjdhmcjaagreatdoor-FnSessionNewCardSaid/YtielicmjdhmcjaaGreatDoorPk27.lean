/- Packed: ParseDate, Mutate. -/
import Derived.Test.YtielicmjdhmcjaaGreatDoorRows
import Derived.Test.YtielicmjdhmcjaaGreatDoorPk26
import Derived.Test.YtielicmjdhmcjaaGreatDoorPk13
import Derived.Test.YtielicmjdhmcjaaGreatDoorPk15
import Derived.Laws.Strings3
/- ParseDate of the program and of the reference; digit and number of the reference. -/
namespace Go.Proofs.YtielicmjdhmcjaaGreatDoor
open Go.RowKit

theorem curAt_new (w : World) (l : List UInt8) : CurAt (w.alloc (Obj.cells #[.string ⟨(l).toArray⟩, .int .i64 0] 104)) w.heap.size l 0 := heap_alloc_new w _
theorem text_eq (a b : List UInt8) : ((⟨a.toArray⟩ : ByteArray).toList == (⟨b.toArray⟩ : ByteArray).toList) = decide (a = b) := by
  rw [ByteArray.toList_mk, ByteArray.toList_mk]
  by_cases h : a = b
  · subst h; simp
  · rw [decide_eq_false h]; simpa using h

theorem pd_ret {l : List UInt8} {y m d : Int} {b : Bool} (h : pdY l = y ∧ pdM l = m ∧ pdD l = d ∧ pdOk l = b) : Ending.returned (.tuple #[.agg #[.int .i64 y, .int .i64 m, .int .i64 d], .bool b]) = .returned (.tuple #[.agg #[.int .i64 (pdY l), .int .i64 (pdM l), .int .i64 (pdD l)], .bool (pdOk l)]) := by
  rw [h.1, h.2.1, h.2.2.1, h.2.2.2]
set_option maxRecDepth 100000 in
set_option maxHeartbeats 1000000 in
theorem ParseDate_any (l : List UInt8) (w : World) (hm : Laid4 w) (hl : l.length ≤ 2000000) :
    Calls Tryz.prog 48 #[.string ⟨(l).toArray⟩] w fun e w' => e = .returned (.tuple #[.agg #[.int .i64 (pdY l), .int .i64 (pdM l), .int .i64 (pdD l)], .bool (pdOk l)]) ∧ w.grownBy w' none := by
  have Hm := hid hm
  clear hm
  have Hz0 := hid (blk_alloc (heap_alloc_new w (Obj.cells #[.int .i64 0, .int .i64 0, .int .i64 0] 81)) (Obj.cells #[.string ⟨(l).toArray⟩, .int .i64 0] 104))
  have Hg0 := hid (gr_alloc (gr_alloc (gr0 w) (Obj.cells #[.int .i64 0, .int .i64 0, .int .i64 0] 81)) (Obj.cells #[.string ⟨(l).toArray⟩, .int .i64 0] 104))
  have hC := curAt_new (w.alloc (Obj.cells #[.int .i64 0, .int .i64 0, .int .i64 0] 81)) l
  have HD := hid (cdate_any _ 0 l _ hC (by omega) hl)
  clear hC
  go_enter Tryz.func48, Tryz.ntmps48
  go_wp2_with fail
  have hsz : (w.alloc (Obj.cells #[.int .i64 0, .int .i64 0, .int .i64 0] 81)).heap.size = w.heap.size + 1 := by simp
  rw [hsz] at HD
  clear hsz
  generalize ((w.alloc (Obj.cells #[.int .i64 0, .int .i64 0, .int .i64 0] 81)).alloc (Obj.cells #[.string ⟨(l).toArray⟩, .int .i64 0] 104)) = W0 at *
  refine HD.out.mono ?_
  rintro e' w1 ⟨rfl, _, hg⟩
  have hne : l ≠ [] → pdOk l = false → fmtDate (dY l 0) (dM l 0) (dD l 0) ≠ l := fun h0 h1 => pd_fmt_no h1 h0
  have heq : pdOk l = true → fmtDate (dY l 0) (dM l 0) (dD l 0) = l := fun h => pd_fmt h
  have hno : pdOk l = false → pdY l = 0 ∧ pdM l = 0 ∧ pdD l = 0 ∧ pdOk l = false := fun h => by unfold pdY pdM pdD; rw [h]; exact ⟨rfl, rfl, rfl, rfl⟩
  have hyes : pdOk l = true → pdY l = dY l 0 ∧ pdM l = dM l 0 ∧ pdD l = dD l 0 ∧ pdOk l = true := fun h => by unfold pdY pdM pdD; rw [h]; exact ⟨rfl, rfl, rfl, rfl⟩
  generalize dY l 0 = y at *
  generalize dM l 0 = m at *
  generalize dD l 0 = d at *
  have Hgb := hid (gr_own Hg0.out hg (fun g e => by cases e; omega))
  have Hg1 := hid (gr_alloc Hgb.out (Obj.cells #[.int .i64 y, .int .i64 m, .int .i64 d] 81))
  have hz1 := blk_keep Hz0.out hg (by simp)
  have hlt : w.heap.size < w1.heap.size := blk_lt hz1
  have Hz1 := hid (blk_alloc hz1 (Obj.cells #[.int .i64 y, .int .i64 m, .int .i64 d] 81))
  have Hd1 := hid (heap_alloc_new w1 (Obj.cells #[.int .i64 y, .int .i64 m, .int .i64 d] 81))
  have Hzb := hid hz1
  clear hg hz1 HD Hg0 Hz0
  by_cases h0 : l = []
  · have HE := hid (hno (by rw [h0]; exact pd_nil))
    have h0b : (l == []) = true := by simpa using h0
    clear hne heq hno hyes h0
    have z0 := blk_cell Hzb.out 0 _ rfl
    have z1 := blk_cell Hzb.out 1 _ rfl
    have z2 := blk_cell Hzb.out 2 _ rfl
    have g0 := blk_frozen Hzb.out 0
    have g1 := blk_frozen Hzb.out 1
    have g2 := blk_frozen Hzb.out 2
    go_wp2_with fail
    refine bodyPost_ret (v := .tuple #[.agg #[.int .i64 0, .int .i64 0, .int .i64 0], .bool false]) (by simp [results, Tryz.results48, go_sem, *]) rfl ⟨pd_ret HE.out, ?_⟩
    repeat (first | exact Hgb.out | apply gr_alloc | refine gr_setCell ?_ (.inr (Nat.le_refl _)) _)
  · have h0b : (l == []) = false := by simpa using h0
    have HF := hid (FormatDate_any y m d (w1.alloc (Obj.cells #[.int .i64 y, .int .i64 m, .int .i64 d] 81)) (Hm.out.keep0 Hg1.out))
    have d0 := blk_cell Hd1.out 0 _ rfl
    have d1 := blk_cell Hd1.out 1 _ rfl
    have d2 := blk_cell Hd1.out 2 _ rfl
    go_wp2_with fail
    refine HF.out.mono ?_
    rintro e' w2 ⟨rfl, hg⟩
    have Hg2 := hid (gr_trans0 Hg1.out hg)
    have Hz2 := hid (blk_keep Hz1.out hg (by simp))
    have Hd2 := hid (blk_keep Hd1.out hg (by simp))
    generalize w1.heap.size = D at *
    generalize fmtDate y m d = F at *
    have n1 : ¬ w.heap.size = D := by omega
    have n2 : ¬ D = w.heap.size := by omega
    clear hg d0 d1 d2 HF
    have d0 := blk_cell Hd2.out 0 _ rfl
    have d1 := blk_cell Hd2.out 1 _ rfl
    have d2 := blk_cell Hd2.out 2 _ rfl
    have z0 := blk_cell Hz2.out 0 _ rfl
    have z1 := blk_cell Hz2.out 1 _ rfl
    have z2 := blk_cell Hz2.out 2 _ rfl
    have g0 := blk_frozen Hz2.out 0
    have g1 := blk_frozen Hz2.out 1
    have g2 := blk_frozen Hz2.out 2
    cases hp : pdOk l with
    | false =>
      have hF : (F == l) = false := by simpa using hne h0 hp
      have HE := hid (hno hp)
      clear hne heq h0 hno hyes hp
      go_wp2_with fail
      refine bodyPost_ret (v := .tuple #[.agg #[.int .i64 0, .int .i64 0, .int .i64 0], .bool false]) (by simp [results, Tryz.results48, go_sem, *]) rfl ⟨pd_ret HE.out, ?_⟩
      exact gr_setCell (gr_setCell (gr_setCell Hg2.out (.inr (Nat.le_refl _)) _) (.inr (Nat.le_refl _)) _) (.inr (Nat.le_refl _)) _
    | true =>
      have hF : (F == l) = true := by simpa using heq hp
      have HE := hid (hyes hp)
      clear hne heq h0 hno hyes hp
      go_wp2_with fail
      refine bodyPost_ret (v := .tuple #[.agg #[.int .i64 y, .int .i64 m, .int .i64 d], .bool true]) (by simp [results, Tryz.results48, go_sem, *]) rfl ⟨pd_ret HE.out, ?_⟩
      exact gr_setCell (gr_setCell (gr_setCell Hg2.out (.inr (Nat.le_refl _)) _) (.inr (Nat.le_refl _)) _) (.inr (Nat.le_refl _)) _


/- The reference. -/
def digV : Option UInt8 → Int
  | some c => if isDig c = true then (c.toNat : Int) - 48 else -1
  | none => -1
theorem digV_yes {c : UInt8} (h : isDig c = true) : digV (some c) = (c.toNat : Int) - 48 := by show (if isDig c = true then (c.toNat : Int) - 48 else -1) = _; rw [if_pos h]
theorem digV_no {c : UInt8} (h : isDig c = false) : digV (some c) = -1 := by show (if isDig c = true then (c.toNat : Int) - 48 else -1) = _; rw [h]; rfl
theorem digV_none : digV none = -1 := rfl
theorem isDig_within (c : UInt8) (z : Int) (h : (c.toNat : Int) = z) : withinB z 48 57 = isDig c := by
  unfold withinB isDig; rw [← h]
  have e1 : decide ((48 : Int) ≤ (c.toNat : Int)) = decide (48 ≤ c.toNat) := by simp; omega
  have e2 : decide ((c.toNat : Int) ≤ (57 : Int)) = decide (c.toNat ≤ 57) := by simp; omega
  rw [e1, e2]
theorem digit_any (l : List UInt8) (k : Nat) (w : World) :
    Calls Tryz.prog 140 #[.string ⟨(l).toArray⟩, .int .i64 k] w fun e w' => e = .returned (.int .i64 (digV l[k]?)) ∧ w = w' := by
  cases hk : l[k]? with
  | none =>
    have hl : l.length ≤ k := by
      by_cases h : k < l.length
      · rw [List.getElem?_eq_getElem h] at hk; cases hk
      · omega
    have hd : decide (l.length ≤ k) = true := by simpa using hl
    rw [digV_none]
    clear hk hl
    go_enter Tryz.func140, Tryz.ntmps140
    go_wp2_with fail
    go_ret
    exact ⟨rfl, rfl⟩
  | some c =>
    have hl := lt_of_at hk
    have hd : decide (l.length ≤ k) = false := by simpa using hl
    have hix := fun w => str_at w 9 l k c hk Tryz.underlying9
    obtain ⟨z, hz⟩ : ∃ z : Int, (c.toNat : Int) = z := ⟨_, rfl⟩
    have hz0 : 0 ≤ z := by omega
    have hz1 : z ≤ 255 := by have := c.toNat_lt; omega
    rw [hz] at hix
    have hi := isDig_within c z hz
    cases hg : isDig c with
    | false =>
      rw [digV_no hg]
      rw [hg] at hi
      have HI := hid hi
      clear hk hl hz hi hg
      go_enter Tryz.func140, Tryz.ntmps140
      go_wp2_with fail
      refine (inRange_any _ _ _ _).mono ?_
      rintro e' w3 ⟨rfl, rfl⟩
      rw [HI.out]
      go_wp2_with fail
      go_ret
      exact ⟨rfl, rfl⟩
    | true =>
      rw [digV_yes hg, hz]
      rw [hg] at hi
      have hz2 := (within_iff' _ _ _).1 hi
      have HI := hid hi
      clear hk hl hz hi hg
      go_enter Tryz.func140, Tryz.ntmps140
      go_wp2_with fail
      refine (inRange_any _ _ _ _).mono ?_
      rintro e' w3 ⟨rfl, rfl⟩
      rw [HI.out]
      go_wp2_with fail
      go_ret
      exact ⟨rfl, rfl⟩

theorem numS_done {l : List UInt8} {p k : Nat} (ha : (part l p k).all isDig = true) (hp : 0 < k → p + k ≤ l.length) : numS l p k = valD (part l p k) := by
  by_cases h : 0 < k
  · exact numS_all ha (hp h)
  · obtain rfl : k = 0 := by omega
    unfold numS part; simp
theorem numS_end {l : List UInt8} {p k j : Nat} (h : l[p + j]? = none) (hj : j < k) : numS l p k = -1 := by
  have hl : l.length ≤ p + j := by
    by_cases hx : p + j < l.length
    · rw [List.getElem?_eq_getElem hx] at h; cases h
    · omega
  unfold numS
  rw [if_neg]
  rintro ⟨h1, _⟩
  rw [List.length_take, List.length_drop] at h1; omega
set_option maxRecDepth 100000 in
set_option maxHeartbeats 400000 in
theorem number5_any (l : List UInt8) (a t : Nat) (w : World) (hat : a ≤ t) (ht : t ≤ a + 5) (ha : a ≤ 100) :
    Calls Tryz.prog 94 #[.string ⟨(l).toArray⟩, .int .i64 a, .int .i64 t] w fun e w' => e = .returned (.int .i64 (numS l a (t - a))) ∧ w = w' := by
  go_enter Tryz.func94, Tryz.ntmps94
  go_wp2_with fail
  go_loop [7, 8] (fun v i => ∃ x : Nat, a ≤ x ∧ x ≤ t ∧ i = .int .i64 x ∧ v = .int .i64 (valD (part l a (x - a))) ∧ Hid ((part l a (x - a)).all isDig = true) ∧ Hid (0 < x - a → a + (x - a) ≤ l.length)) (fun _ i => t - (intOf i).toNat)
  case atStart => exact ⟨a, by omega, by omega, rfl, by rw [Nat.sub_self, part_zero]; rfl, hid (by rw [Nat.sub_self, part_zero]; rfl), hid (by omega)⟩
  case round =>
    obtain ⟨x, hx0, hx1, rfl, rfl, Ha, Hl⟩ := hrel
    have hvb := valD_bd Ha.out (by unfold part; rw [List.length_take]; omega)
    obtain ⟨v, hv⟩ : ∃ v, valD (part l a (x - a)) = v := ⟨_, rfl⟩
    rw [hv] at hvb ⊢
    by_cases hxt : x = t
    · have hd : decide (x < t) = false := by simp; omega
      have HE := hid (show numS l a (t - a) = v by rw [← hxt, numS_done Ha.out Hl.out, hv])
      clear hxt hv
      go_wp2_with fail
      go_ret
      exact ⟨ret_int HE.out.symm, rfl⟩
    have hxlt : x < t := by omega
    have hd : decide (x < t) = true := by simp; omega
    have HD := hid (fun wx => digit_any l x wx)
    cases hc : l[x]? with
    | none =>
      have HE := hid (numS_end (l := l) (p := a) (k := t - a) (j := x - a) (by rw [show a + (x - a) = x by omega]; exact hc) (by omega))
      rw [hc, digV_none] at HD
      clear hc hv hxt
      go_wp2_with fail
      refine (HD.out _).mono ?_
      rintro e' w1 ⟨rfl, rfl⟩
      go_wp2_with fail
      go_ret
      exact ⟨ret_int HE.out.symm, rfl⟩
    | some c =>
      cases hg : isDig c with
      | false =>
        have HE := hid (numS_bad (l := l) (p := a) (k := t - a) (j := x - a) (by rw [show a + (x - a) = x by omega]; exact hc) (by omega) hg)
        rw [hc, digV_no hg] at HD
        clear hc hv hxt hg
        go_wp2_with fail
        refine (HD.out _).mono ?_
        rintro e' w1 ⟨rfl, rfl⟩
        go_wp2_with fail
        go_ret
        exact ⟨ret_int HE.out.symm, rfl⟩
      | true =>
        have hcx : l[a + (x - a)]? = some c := by rw [show a + (x - a) = x by omega]; exact hc
        have hg2 := hg
        unfold isDig at hg2
        simp only [Bool.and_eq_true, decide_eq_true_eq] at hg2
        rw [hc, digV_yes hg] at HD
        have HA2 := hid (part_all hcx hg Ha.out)
        have HV2 := hid (part_val hcx)
        have HL2 := hid (lt_of_at hcx)
        obtain ⟨z, hz⟩ : ∃ z : Int, (c.toNat : Int) - 48 = z := ⟨_, rfl⟩
        rw [hz] at HD HV2
        rw [hv] at HV2
        have hz0 : 0 ≤ z ∧ z ≤ 9 := by omega
        have hdz : decide (z < 0) = false := by simp; omega
        rw [show x - a + 1 = x + 1 - a by omega] at HA2 HV2
        clear hc hv hxt hg hg2 hcx hz
        go_wp2_with fail
        refine (HD.out _).mono ?_
        rintro e' w1 ⟨rfl, rfl⟩
        go_wp2_with fail
        refine (HD.out _).mono ?_
        rintro e' w1 ⟨rfl, rfl⟩
        go_wp2_with fail
        go_round
        case rel => exact ⟨x + 1, by omega, by omega, by go_num, by rw [HV2.out], HA2, hid (by have := HL2.out; omega)⟩
        case measure => simp [intOf]; omega

set_option maxRecDepth 100000 in
set_option maxHeartbeats 1000000 in
theorem specParseDate_any (l : List UInt8) (w : World) (_ : l.length ≤ 2000000) :
    Calls Tryz.prog 61 #[.string ⟨(l).toArray⟩] w fun e w' => e = .returned (.tuple #[.agg #[.int .i64 (pdY l), .int .i64 (pdM l), .int .i64 (pdD l)], .bool (pdOk l)]) ∧ w.grownBy w' none := by
  have Hz0 := hid (heap_alloc_new w (Obj.cells #[.int .i64 0, .int .i64 0, .int .i64 0] 81))
  have Hg0 := hid (gr_alloc (gr0 w) (Obj.cells #[.int .i64 0, .int .i64 0, .int .i64 0] 81))
  have hno : pdOk l = false → pdY l = 0 ∧ pdM l = 0 ∧ pdD l = 0 ∧ pdOk l = false := fun h => by unfold pdY pdM pdD; rw [h]; exact ⟨rfl, rfl, rfl, rfl⟩
  have hyes : pdOk l = true → pdY l = numS l 0 4 ∧ pdM l = numS l 5 2 ∧ pdD l = numS l 8 2 ∧ pdOk l = true := fun h => by
    obtain ⟨_, a, b, c⟩ := specDate_yes h
    unfold pdY pdM pdD; rw [h, a, b, c]; exact ⟨rfl, rfl, rfl, rfl⟩
  have z0 := blk_cell Hz0.out 0 _ rfl
  have z1 := blk_cell Hz0.out 1 _ rfl
  have z2 := blk_cell Hz0.out 2 _ rfl
  have g0 := blk_frozen Hz0.out 0
  have g1 := blk_frozen Hz0.out 1
  have g2 := blk_frozen Hz0.out 2
  by_cases h10 : l.length = 10
  case neg =>
    have hd : ((l.length : Int) != 10) = true := by simp; omega
    have HE := hid (hno (by
      cases h : pdOk l with
      | false => rfl
      | true => exact (h10 (pd_len h)).elim))
    clear h10 hno hyes
    go_enter Tryz.func61, Tryz.ntmps61
    go_wp2_with fail
    refine bodyPost_ret (v := .tuple #[.agg #[.int .i64 0, .int .i64 0, .int .i64 0], .bool false]) (by simp [results, Tryz.results61, go_sem, *]) rfl ⟨pd_ret HE.out, ?_⟩
    repeat (first | exact Hg0.out | refine gr_setCell ?_ (.inr (Nat.le_refl _)) _)
  have hd : ((l.length : Int) != 10) = false := by simp; omega
  have hvy : pdOk l = true → dateB (numS l 0 4) (numS l 5 2) (numS l 8 2) = true ∧ dateT (numS l 0 4) (numS l 5 2) (numS l 8 2) = l := fun h => by
    obtain ⟨_, a, b, c⟩ := specDate_yes h
    rw [a, b, c]; exact pd_is h
  have hvn : pdOk l = false → dateB (numS l 0 4) (numS l 5 2) (numS l 8 2) = true → dateT (numS l 0 4) (numS l 5 2) (numS l 8 2) ≠ l := fun h h2 => specDate_no h h2
  have N1 := hid (fun wx => number5_any l 0 4 wx (by omega) (by omega) (by omega))
  have N2 := hid (fun wx => number5_any l 5 7 wx (by omega) (by omega) (by omega))
  have N3 := hid (fun wx => number5_any l 8 10 wx (by omega) (by omega) (by omega))
  rw [show 4 - 0 = 4 from rfl] at N1
  rw [show 7 - 5 = 2 from rfl] at N2
  rw [show 10 - 8 = 2 from rfl] at N3
  generalize numS l 0 4 = y at *
  generalize numS l 5 2 = m at *
  generalize numS l 8 2 = d at *
  clear h10
  go_enter Tryz.func61, Tryz.ntmps61
  go_wp2_with fail
  refine (N1.out _).mono ?_
  rintro e' w1 ⟨rfl, rfl⟩
  go_wp2_with fail
  refine (N2.out _).mono ?_
  rintro e' w1 ⟨rfl, rfl⟩
  go_wp2_with fail
  refine (N3.out _).mono ?_
  rintro e' w1 ⟨rfl, rfl⟩
  have HV := hid (validDate_any y m d ((w.alloc (Obj.cells #[.int .i64 0, .int .i64 0, .int .i64 0] 81)).alloc (Obj.cells #[.int .i64 y, .int .i64 m, .int .i64 d] 81)))
  have Hg1 := hid (gr_alloc Hg0.out (Obj.cells #[.int .i64 y, .int .i64 m, .int .i64 d] 81))
  have Hz1 := hid (blk_alloc Hz0.out (Obj.cells #[.int .i64 y, .int .i64 m, .int .i64 d] 81))
  have Hd1 := hid (heap_alloc_new (w.alloc (Obj.cells #[.int .i64 0, .int .i64 0, .int .i64 0] 81)) (Obj.cells #[.int .i64 y, .int .i64 m, .int .i64 d] 81))
  go_wp2_with fail
  refine (HV.out).mono ?_
  rintro e' w1 ⟨rfl, hg⟩
  have Hg2 := hid (gr_trans0 Hg1.out hg)
  have Hz2 := hid (blk_keep Hz1.out hg (by simp))
  have hd2 := blk_keep Hd1.out hg (by simp)
  have hsz : (w.alloc (Obj.cells #[.int .i64 0, .int .i64 0, .int .i64 0] 81)).heap.size = w.heap.size + 1 := by simp
  rw [hsz] at hd2
  have Hd2 := hid hd2
  clear hg z0 z1 z2 g0 g1 g2 hd2 hsz Hd1 Hz1 HV N1 N2 N3
  cases hv : dateB y m d with
  | false =>
    have hp : pdOk l = false := by
      cases h : pdOk l with
      | false => rfl
      | true => have := (hvy h).1; rw [hv] at this; cases this
    have HE := hid (hno hp)
    have z0 := blk_cell Hz2.out 0 _ rfl
    have z1 := blk_cell Hz2.out 1 _ rfl
    have z2 := blk_cell Hz2.out 2 _ rfl
    have g0 := blk_frozen Hz2.out 0
    have g1 := blk_frozen Hz2.out 1
    have g2 := blk_frozen Hz2.out 2
    clear hno hyes hvy hvn hp hv
    go_wp2_with fail
    refine bodyPost_ret (v := .tuple #[.agg #[.int .i64 0, .int .i64 0, .int .i64 0], .bool false]) (by simp [results, Tryz.results61, go_sem, *]) rfl ⟨pd_ret HE.out, ?_⟩
    repeat (first | exact Hg2.out | refine gr_setCell ?_ (.inr (Nat.le_refl _)) _)
  | true =>
    have d0 := blk_cell Hd2.out 0 _ rfl
    have d1 := blk_cell Hd2.out 1 _ rfl
    have d2 := blk_cell Hd2.out 2 _ rfl
    have HF := hid (fun wx => specformatDate_any y m d wx ((dateB_iff _ _ _).1 hv))
    go_wp2_with fail
    refine (HF.out _).mono ?_
    rintro e' w2 ⟨rfl, hg⟩
    have Hg3 := hid (gr_trans0 Hg2.out hg)
    have hz3 := blk_keep Hz2.out hg (by simp)
    have hd3 := blk_keep Hd2.out hg (by simp)
    generalize dateT y m d = F at *
    clear hg d0 d1 d2 HF
    have z0 := blk_cell hz3 0 _ rfl
    have z1 := blk_cell hz3 1 _ rfl
    have z2 := blk_cell hz3 2 _ rfl
    have g0 := blk_frozen hz3 0
    have g1 := blk_frozen hz3 1
    have g2 := blk_frozen hz3 2
    have d0 := blk_cell hd3 0 _ rfl
    have d1 := blk_cell hd3 1 _ rfl
    have d2 := blk_cell hd3 2 _ rfl
    clear hz3 hd3
    have n1 : ¬ w.heap.size = w.heap.size + 1 := by omega
    have n2 : ¬ w.heap.size + 1 = w.heap.size := by omega
    cases hp : pdOk l with
    | false =>
      have HE := hid (hno hp)
      have hF : (F == l) = false := by simpa using hvn hp hv
      clear hno hyes hvy hvn hp hv
      go_wp2_with fail
      refine bodyPost_ret (v := .tuple #[.agg #[.int .i64 0, .int .i64 0, .int .i64 0], .bool false]) (by simp [results, Tryz.results61, go_sem, *]) rfl ⟨pd_ret HE.out, ?_⟩
      repeat (first | exact Hg3.out | refine gr_setCell ?_ (.inr (Nat.le_refl _)) _)
    | true =>
      have HE := hid (hyes hp)
      have hF : (F == l) = true := by simpa using (hvy hp).2
      clear hno hyes hvy hvn hp hv
      go_wp2_with fail
      refine bodyPost_ret (v := .tuple #[.agg #[.int .i64 y, .int .i64 m, .int .i64 d], .bool true]) (by simp [results, Tryz.results61, go_sem, *]) rfl ⟨pd_ret HE.out, ?_⟩
      repeat (first | exact Hg3.out | refine gr_setCell ?_ (.inr (Nat.le_refl _)) _)

end Go.Proofs.YtielicmjdhmcjaaGreatDoor

/- Texts that are drawn from a list; texts that are spoilt. -/
namespace Go.Proofs.YtielicmjdhmcjaaGreatDoor
open Go.RowKit

/- Lists of texts that are written out. -/
theorem of_lit (rb m : Nat) (xs : List (List UInt8)) (cs : Array Value) (e n : Nat) (hcs : cs = (xs.map (fun x => .string ⟨(x).toArray⟩)).toArray) (hn : xs.length = n) (h0 : 0 < n) (hbig : n ≤ 100) (w : World) (N : Nat) (hN : w.heap.size = N) (h : Rdr 55 w rb m) (hm : m ≤ 1000000000) :
    Calls Tryz.prog 14 #[.pointer (some ⟨rb, 0, none⟩), .slice (some ⟨N, 0, none⟩) n n] (w.alloc (.cells cs e)) fun e w' => ∃ x, e = .returned (.string ⟨(x).toArray⟩) ∧ x ∈ xs ∧ Rdr 55 w' rb (m + 1) ∧ w.grownBy w' (some rb) := by
  have hlt := h.lt
  have hg0 : w.grownBy (w.alloc (.cells cs e)) none := gr_alloc (gr0 _) _
  have h1 := h.keep0 hg0
  have hb := heap_alloc_new w (.cells cs e)
  rw [hN] at hb hlt
  have Hg0 := hid hg0
  have Hb := hid hb
  have Hcs := hid hcs
  clear hg0 hb hcs h hN
  generalize (w.alloc (.cells cs e)) = W at *
  go_enter Tryz.func14, Tryz.ntmps14
  go_wp2_with fail
  refine (pick_any rb m n W h1 hm).mono ?_
  rintro e9 w1 ⟨k, rfl, hk0, hk1, h2, hg⟩
  have hk : k < n := by omega
  clear hk1
  obtain ⟨k, rfl⟩ := Int.eq_ofNat_of_zero_le hk0
  have hkl : k < xs.length := by omega
  have Hx := hid (List.getElem?_eq_getElem hkl)
  generalize xs[k] = x at *
  have c0 : w1.cell? ⟨N, 0 + k, none⟩ = some (.string ⟨(x).toArray⟩) := blk_cell (blk_keep Hb.out hg (by simp; omega)) _ _ (by rw [Hcs.out, Nat.zero_add, List.getElem?_toArray, List.getElem?_map, Hx.out]; rfl)
  have c1 : w1.cell? ⟨N, k, none⟩ = some (.string ⟨(x).toArray⟩) := by rw [Nat.zero_add] at c0; exact c0
  have Hg := hid (gr_trans (gr_any Hg0.out _) hg (fun g e => .inl e)); clear hg
  have H2 := hid h2; clear h2 c0
  go_wp2
  go_ret
  exact ⟨x, rfl, List.mem_of_getElem? Hx.out, H2.out, Hg.out⟩


theorem str_take (w : World) (t : TypeId) (l : List UInt8) (k : Nat) (h : k ≤ l.length) (ht : Tryz.prog.underlying t = some .string) : (Instr.slice t (.string ⟨(l).toArray⟩) none (some (.int .i64 (k : Int))) none).run Tryz.prog w = .ok (.string ⟨(l.take k).toArray⟩) w := by
  rw [run_slice_string_to_if w t _ _ _ ht, if_pos ⟨by omega, by show (k : Int) ≤ ((l.toArray.size : Nat) : Int); rw [List.size_toArray]; omega⟩, ByteArray.extract_mk]
  simp
theorem str_drop (w : World) (t : TypeId) (l : List UInt8) (k : Nat) (z : Int) (hz : z = (k : Int)) (h : k ≤ l.length) (ht : Tryz.prog.underlying t = some .string) : (Instr.slice t (.string ⟨(l).toArray⟩) (some (.int .i64 z)) none none).run Tryz.prog w = .ok (.string ⟨(l.drop k).toArray⟩) w := by
  subst hz
  rw [run_slice_string_from_if w t _ _ _ ht, if_pos ⟨by omega, by show (k : Int) ≤ ((l.toArray.size : Nat) : Int); rw [List.size_toArray]; omega⟩, ByteArray.extract_mk]
  have : ByteArray.size ⟨l.toArray⟩ = l.length := by show l.toArray.size = _; rw [List.size_toArray]
  simp only [Int.toNat_natCast]
  rw [this, List.take_of_length_le (by rw [List.length_drop]; omega)]

set_option maxRecDepth 100000 in
set_option maxHeartbeats 1000000 in
theorem mutate_any (rb m : Nat) (l : List UInt8) (w : World) (h : Rdr 55 w rb m) (hm : m ≤ 100000) (hl : l.length ≤ 1000) :
    Calls Tryz.prog 16 #[.pointer (some ⟨rb, 0, none⟩), .string ⟨(l).toArray⟩] w fun e w' => ∃ t : List UInt8, e = .returned (.string ⟨(t).toArray⟩) ∧ t.length ≤ l.length + 2 ∧ Rdr 55 w' rb (m + 3) ∧ w.grownBy w' (some rb) := by
  go_enter Tryz.func16, Tryz.ntmps16
  go_wp2_with fail
  refine (pick_any rb m _ _ h (by omega)).mono ?_
  rintro e w1 ⟨k, rfl, hk0, hk1, h1, hg⟩
  have Hg1 := hid hg
  obtain ⟨k, rfl⟩ := Int.eq_ofNat_of_zero_le hk0
  have hk : k ≤ l.length := by omega
  clear hg hk0 hk1 h
  go_wp2_with fail
  refine (pick_any rb _ 5 _ h1 (by omega)).mono ?_
  rintro e w2 ⟨t, rfl, ht0, ht1, h2, hg⟩
  have Hg2 := hid (gr_transS Hg1.out hg)
  clear hg ht1 h1
  have hT := fun w => str_take w 9 l k hk Tryz.underlying9
  by_cases t0 : t = 0
  · subst t0
    by_cases hkl : k < l.length
    · have hd : decide (k < l.length) = true := by simpa using hkl
      have hD := fun w => str_drop w 9 l (k + 1) ((k : Int) + 1) (by push_cast; rfl) hkl Tryz.underlying9
      clear ht0
      go_wp2_with fail
      refine wp_region_held_drew (S := fun w' => Rdr 55 w' rb (m + 3) ∧ w.grownBy w' (some rb)) (by kernel_rfl) ⟨(h2.keep0 (gr_drew (gr0 _))).mono (by omega), gr_drew Hg2.out⟩ (fun hHeld => ?_)
      have u1 : IntKind.i64.wrap ((k : Int) + 1) = (k : Int) + 1 := IntWalk.i64_in _ (by omega)
      refine wpAnyH_take (i := 0) (v := ?_) rfl (by kernel_rfl) (by kernel_rfl) (by kernel_rfl) (fun _ _ _ h => h) (Or.inl ⟨by rfl, ?_⟩) hHeld ?_
      rotate_left
      · intro w9 hSw
        clear hSw
        go_simp
        all_goals (try with_reducible rfl)
      (try simp only [Act.put, gA, gC, gD, gE, gF])
      refine wpAnyH_take (i := 1) (v := ?_) rfl (by kernel_rfl) (by kernel_rfl) (by kernel_rfl) (fun _ _ _ h => h) (Or.inl ⟨by rfl, ?_⟩) hHeld ?_
      rotate_left
      · intro w9 hSw
        clear hSw
        go_simp
        all_goals (try with_reducible rfl)
      (try simp only [Act.put, gA, gB, gC, gD, gE, gF])
      refine wpAnyH_take (i := 2) (v := ?_) rfl (by kernel_rfl) (by kernel_rfl) (by kernel_rfl) (fun _ _ _ h => h) (Or.inl ⟨by rfl, ?_⟩) hHeld ?_
      rotate_left
      · intro w9 hSw
        clear hSw
        go_simp
        all_goals (try with_reducible rfl)
      (try simp only [Act.put, gA, gB, gC, gD, gE, gF])
      refine wpAnyH_take (i := 3) (v := ?_) rfl (by kernel_rfl) (by kernel_rfl) (by kernel_rfl) (fun _ _ _ h => h) (Or.inl ⟨by rfl, ?_⟩) hHeld ?_
      rotate_left
      · intro w9 hSw
        clear hSw
        go_simp
        all_goals (try with_reducible rfl)
      (try simp only [Act.put, gA, gB, gC, gD, gE, gF])
      refine wpAnyH_take (i := 7) (v := ?_) rfl (by kernel_rfl) (by kernel_rfl) (by kernel_rfl) (fun _ _ _ h => h) (Or.inl ⟨by rfl, ?_⟩) hHeld ?_
      rotate_left
      · intro w9 hSw
        clear hSw
        go_simp
        all_goals (try with_reducible rfl)
      (try simp only [Act.put, gA, gB, gC, gD, gE, gF])
      refine wpAnyH_take (i := 8) (v := ?_) rfl (by kernel_rfl) (by kernel_rfl) (by kernel_rfl) (fun _ _ _ h => h) (Or.inl ⟨by rfl, ?_⟩) hHeld ?_
      rotate_left
      · intro w9 hSw
        clear hSw
        go_simp
        all_goals (try with_reducible rfl)
      (try simp only [Act.put, gA, gB, gC, gD, gE, gF])
      (try simp only [u1])
      refine wpAnyH_take (i := 9) (v := ?_) rfl (by kernel_rfl) (by kernel_rfl) (by kernel_rfl) (fun _ _ _ h => h) (Or.inl ⟨by rfl, ?_⟩) hHeld ?_
      rotate_left
      · intro w9 hSw
        clear hSw
        go_simp
        all_goals (try with_reducible rfl)
      (try simp only [Act.put, gA, gB, gC, gD, gE, gF])
      refine wpAnyH_take (i := 10) (v := ?_) rfl (by kernel_rfl) (by kernel_rfl) (by kernel_rfl) (fun _ _ _ h => h) (Or.inl ⟨by rfl, ?_⟩) hHeld ?_
      rotate_left
      · intro w9 hSw
        clear hSw
        go_simp
        all_goals (try with_reducible rfl)
      (try simp only [Act.put, gA, gB, gC, gD, gE, gF])
      clear hT hD
      generalize hA : l.take k = A
      generalize hB : l.drop (k + 1) = B
      have hAl : A.length ≤ k := by rw [← hA, List.length_take]; omega
      have hBl : B.length + (k + 1) ≤ l.length := by rw [← hB, List.length_drop]; omega
      clear hA hB
      refine wpAnyH_ready (rs := [4]) (by kernel_rfl) (by simp) ?_
      refine AllReadyH.cons rfl (fun K' hK' => ?_) AllReadyH.nil
      go_simp
      refine hK'.out _ _ ⟨hHeld.1.keep0 (gr_alloc (gr0 _) _), gr_alloc hHeld.2 _⟩ (fun hHeldN => ?_)
      clear hHeld hK' K'
      (try simp only [Act.put, gA, gB, gC, gD, gE, gF])
      refine wpAnyH_ready (rs := [5]) (by kernel_rfl) (by simp) ?_
      refine AllReadyH.cons rfl (fun K' hK' => ?_) AllReadyH.nil
      go_simp
      refine (of_lit rb _ [[48], [49], [32], [45], [43], [97], [46], [57]] _ _ _ rfl rfl (by simp) (by simp) _ _ rfl (h2.keep0 (gr_drew (gr0 _))) (by omega)).mono ?_
      rintro e w3 ⟨x, rfl, hx, h3, hg⟩
      have hxl : x.length ≤ 1 := by simp at hx; rcases hx with rfl | rfl | rfl | rfl | rfl | rfl | rfl | rfl <;> simp
      (try simp only [])
      refine hK'.out _ _ ⟨h3.mono (by omega), gr_transS (gr_drew Hg2.out) hg⟩ (fun hHeld => ?_)
      clear hHeldN hK' K' hx hg h3 h2
      (try simp only [Act.put, gA, gB, gC, gD, gE, gF])
      have a1 : ∀ w, (Op.stringOp .add ⟨A.toArray⟩ ⟨x.toArray⟩).run Tryz.prog w = .ok (.string ⟨(A ++ x).toArray⟩) w := fun w => add_lists A x (by omega) (by omega) w
      have a2 : ∀ w, (Op.stringOp .add ⟨(A ++ x).toArray⟩ ⟨B.toArray⟩).run Tryz.prog w = .ok (.string ⟨(A ++ x ++ B).toArray⟩) w := fun w => add_lists (A ++ x) B (by rw [List.length_append]; omega) (by omega) w
      have hfl : (A ++ x ++ B).length ≤ l.length + 2 := by rw [List.length_append, List.length_append]; omega
      generalize A ++ x ++ B = C at *
      generalize A ++ x = D at *
      refine wpAnyH_take (i := 6) (v := ?_) rfl (by kernel_rfl) (by kernel_rfl) (by kernel_rfl) (fun _ _ _ h => h) (Or.inl ⟨by rfl, ?_⟩) hHeld ?_
      rotate_left
      · intro w9 hSw
        clear hSw
        go_simp
        all_goals (try with_reducible rfl)
      (try simp only [Act.put, gA, gB, gC, gD, gE, gF])
      refine wpAnyH_take (i := 11) (v := ?_) rfl (by kernel_rfl) (by kernel_rfl) (by kernel_rfl) (fun _ _ _ h => h) (Or.inl ⟨by rfl, ?_⟩) hHeld ?_
      rotate_left
      · intro w9 hSw
        clear hSw
        go_simp
        all_goals (try with_reducible rfl)
      (try simp only [Act.put, gA, gB, gC, gD, gE, gF])
      refine wpAnyH_take (i := 12) (v := ?_) rfl (by kernel_rfl) (by kernel_rfl) (by kernel_rfl) (fun _ _ _ h => h) (Or.inl ⟨by rfl, ?_⟩) hHeld ?_
      rotate_left
      · intro w9 hSw
        clear hSw
        go_simp
        all_goals (try with_reducible rfl)
      (try simp only [Act.put, gA, gB, gC, gD, gE, gF])
      refine wpAnyH_done (by kernel_rfl) ?_ _
      have HR := hid hHeld.1
      have HG := hid hHeld.2
      clear hHeld a1 a2
      go_wp2_with fail
      go_ret
      exact ⟨C, rfl, hfl, HR.out, HG.out⟩
    · have hd : decide (k < l.length) = false := by simpa using hkl
      clear hT hk ht0
      go_wp2_with fail
      go_ret
      exact ⟨l, rfl, by omega, h2.mono (by omega), Hg2.out⟩
  by_cases t1 : t = 1
  · subst t1
    go_wp2_with fail
    go_ret
    exact ⟨l.take k, rfl, by rw [List.length_take]; omega, h2.mono (by omega), Hg2.out⟩
  by_cases t2 : t = 2
  · subst t2
    clear hT
    go_wp2_with fail
    refine (of_lit rb _ [[48], [32], [45], [32, 54], [120], [50]] _ _ _ rfl rfl (by simp) (by simp) _ _ rfl h2 (by omega)).mono ?_
    rintro e w3 ⟨x, rfl, hx, h3, hg⟩
    have hxl : x.length ≤ 2 := by simp at hx; rcases hx with rfl | rfl | rfl | rfl | rfl | rfl <;> simp
    have Hg3 := hid (gr_transS Hg2.out hg)
    have hadd : ∀ w, (Op.stringOp .add ⟨l.toArray⟩ ⟨x.toArray⟩).run Tryz.prog w = .ok (.string ⟨(l ++ x).toArray⟩) w := fun w => add_lists l x (by omega) (by omega) w
    clear hg hx
    go_wp2_with fail
    go_ret
    exact ⟨l ++ x, rfl, by rw [List.length_append]; omega, h3, Hg3.out⟩
  have p0 : (t == 0) = false := by simpa using t0
  have p1 : (t == 1) = false := by simpa using t1
  have p2 : (t == 2) = false := by simpa using t2
  clear t0 t1 t2 hT ht0
  go_wp2_with fail
  go_ret
  exact ⟨l, rfl, by omega, h2.mono (by omega), Hg2.out⟩
end Go.Proofs.YtielicmjdhmcjaaGreatDoor

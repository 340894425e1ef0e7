/- Packed: Cursor. -/
import Derived.Test.YtielicmjdhmcjaaGreatDoorRows
import Derived.Test.YtielicmjdhmcjaaGreatDoorPk11
import Derived.Deep.RegionHeld
import Derived.Deep.QuietTactic
import Derived.BigQuiet
/- The cursor of the program: number, skip, date; ParseDate. -/
namespace Go.Proofs.YtielicmjdhmcjaaGreatDoor
open Go.RowKit

def CurAt (w : World) (cb : Nat) (l : List UInt8) (p : Nat) : Prop := w.heap[cb]? = some (.cells #[.string ⟨(l).toArray⟩, .int .i64 p] 104 (0, 0))
theorem CurAt.keep {w w' : World} {cb p : Nat} {l : List UInt8} {r : Option Nat} (h : CurAt w cb l p) (g : w.grownBy w' r) (hr : ∀ k, r = some k → k ≠ cb) : CurAt w' cb l p := blk_keep h g hr
theorem CurAt.set {w : World} {cb p : Nat} {l : List UInt8} (h : CurAt w cb l p) (q : Nat) : CurAt (w.setCell ⟨cb, 1, none⟩ (.int .i64 q)) cb l q := (blk_set h 1 _).trans rfl
def atOf (w : World) (cb : Nat) : Nat := match w.cell? ⟨cb, 1, none⟩ with | some v => (intOf v).toNat | none => 0
theorem atOf_eq {w : World} {cb p : Nat} {l : List UInt8} (h : CurAt w cb l p) : atOf w cb = p := by
  unfold atOf; rw [blk_cell h 1 _ rfl]; simp [intOf]
theorem str_at (w : World) (t : TypeId) (l : List UInt8) (k : Nat) (c : UInt8) (h : l[k]? = some c) (ht : Tryz.prog.underlying t = some .string) : (Instr.index t (.string ⟨(l).toArray⟩) (.int .i64 (k : Int))).run Tryz.prog w = .ok (.int .u8 c.toNat) w := by
  have hk := lt_of_at h
  have e : l[k] = c := by
    have := List.getElem?_eq_getElem hk
    rw [h] at this; exact (Option.some.inj this).symm
  rw [run_index_string w t _ _ _ ht, dif_pos ⟨by omega, by show (k : Int) < ((l.toArray.size : Nat) : Int); rw [List.size_toArray]; omega⟩]
  subst e
  rfl
theorem CurAt.c0 {w : World} {cb p : Nat} {l : List UInt8} (h : CurAt w cb l p) : w.cell? ⟨cb, 0, none⟩ = some (.string ⟨(l).toArray⟩) := blk_cell h 0 _ rfl
theorem CurAt.c1 {w : World} {cb p : Nat} {l : List UInt8} (h : CurAt w cb l p) : w.cell? ⟨cb, 1, none⟩ = some (.int .i64 p) := blk_cell h 1 _ rfl
theorem CurAt.f1 {w : World} {cb p : Nat} {l : List UInt8} (h : CurAt w cb l p) : w.frozen? ⟨cb, 1, none⟩ = false := blk_frozen h 1

set_option maxRecDepth 100000 in
set_option maxHeartbeats 1000000 in
theorem cnumber_any (cb p : Nat) (l : List UInt8) (w : World) (h : CurAt w cb l p) (hp : p ≤ l.length) (hl : l.length ≤ 2000000) :
    Calls Tryz.prog 73 #[.pointer (some ⟨cb, 0, none⟩)] w fun e w' => e = .returned (.int .i64 (numAt l p)) ∧ CurAt w' cb l (endAt l p) ∧ w.grownBy w' (some cb) := by
  have H0 := hid h
  have c0 := h.c0
  have c1 := h.c1
  clear h
  go_enter Tryz.func73, Tryz.ntmps73
  go_wp2_with fail
  clear c0 c1
  go_loopw [3] (fun v wr => ∃ j : Nat, p ≤ j ∧ j ≤ p + 6 ∧ j ≤ l.length ∧ v = .int .i64 (valD (part l p (j - p))) ∧ Hid ((part l p (j - p)).all isDig = true) ∧ Hid (CurAt wr cb l j) ∧ w.grownBy wr (some cb)) (fun _ wr => l.length - atOf wr cb)
  case atStart => exact ⟨p, by omega, by omega, hp, by rw [Nat.sub_self, part_zero]; rfl, hid (by rw [Nat.sub_self, part_zero]; rfl), H0, gr_refl _ _⟩
  case round =>
    clear H0
    obtain ⟨j, hj0, hj1, hj2, rfl, Ha, HC, hg⟩ := hrel
    have Hg := hid hg
    clear hg
    have hpl := part_len (l := l) (p := p) (k := j - p) (by omega)
    have hvb := valD_bd Ha.out (by omega)
    have c0 := HC.out.c0
    have c1 := HC.out.c1
    obtain ⟨v, hv⟩ : ∃ v, valD (part l p (j - p)) = v := ⟨_, rfl⟩
    rw [hv] at hvb ⊢
    have Hv := hid hv
    clear hv hpl
    by_cases h1 : j = l.length
    · have hd1 : decide (j < l.length) = false := by simp; omega
      have HE := hid (num_end Ha.out (by omega) (by omega) (.inr (.inl (by omega))))
      clear h1
      go_wp2_with fail
      go_quiet (fail)
      go_wp2_with fail
      go_ret
      exact ⟨ret_int (by rw [HE.out.1, Hv.out]), by rw [HE.out.2, show p + (j - p) = j by omega]; exact HC.out.keep (gr_drewN (gr0 _) _) (by simp), gr_drewN Hg.out _⟩
    have hd1 : decide (j < l.length) = true := by simp; omega
    have u1 : IntKind.i64.wrap ((j : Int) - p) = (j : Int) - p := IntWalk.i64_in _ (by omega)
    by_cases h2 : j = p + 6
    · have hd2 : decide ((j : Int) - p < 6) = false := by simp; omega
      have HE := hid (num_end Ha.out (by omega) (by omega) (.inl (by omega)))
      clear h1 h2
      go_wp2_with fail
      go_quiet (fail)
      go_wp2_with fail
      go_ret
      exact ⟨ret_int (by rw [HE.out.1, Hv.out]), by rw [HE.out.2, show p + (j - p) = j by omega]; exact HC.out.keep (gr_drewN (gr0 _) _) (by simp), gr_drewN Hg.out _⟩
    have hd2 : decide ((j : Int) - p < 6) = true := by simp; omega
    have hjl : j < l.length := by omega
    have hc := List.getElem?_eq_getElem hjl
    generalize l[j] = c at hc
    have hix := fun w => str_at w 9 l j c hc Tryz.underlying9
    have hc2 : l[p + (j - p)]? = some c := by rw [show p + (j - p) = j by omega]; exact hc
    obtain ⟨z, hz⟩ : ∃ z : Int, (c.toNat : Int) = z := ⟨_, rfl⟩
    have hz0 : 0 ≤ z := by omega
    have hz1 : z ≤ 255 := by have := c.toNat_lt; omega
    rw [hz] at hix
    by_cases h3 : z < 48
    · have hd3 : decide (48 ≤ z) = false := by simp; omega
      have HE := hid (num_end Ha.out (by omega) (by omega) (.inr (.inr ⟨c, hc2, by unfold isDig; rw [decide_eq_false (show ¬ 48 ≤ c.toNat by omega)]; rfl⟩)))
      clear h1 h2 h3 hc hc2 hz
      go_wp2_with fail
      go_quiet (fail)
      go_wp2_with fail
      go_ret
      exact ⟨ret_int (by rw [HE.out.1, Hv.out]), by rw [HE.out.2, show p + (j - p) = j by omega]; exact HC.out.keep (gr_drewN (gr0 _) _) (by simp), gr_drewN Hg.out _⟩
    have hd3 : decide (48 ≤ z) = true := by simp; omega
    by_cases h4 : 57 < z
    · have hd4 : decide (z ≤ 57) = false := by simp; omega
      have HE := hid (num_end Ha.out (by omega) (by omega) (.inr (.inr ⟨c, hc2, by unfold isDig; rw [decide_eq_false (show ¬ c.toNat ≤ 57 by omega), Bool.and_false]⟩)))
      clear h1 h2 h3 h4 hc hc2 hz
      go_wp2_with fail
      go_quiet (fail)
      go_wp2_with fail
      go_ret
      exact ⟨ret_int (by rw [HE.out.1, Hv.out]), by rw [HE.out.2, show p + (j - p) = j by omega]; exact HC.out.keep (gr_drewN (gr0 _) _) (by simp), gr_drewN Hg.out _⟩
    have hd4 : decide (z ≤ 57) = true := by simp; omega
    have hdig : isDig c = true := by unfold isDig; simp; omega
    have HA2 := hid (part_all hc2 hdig Ha.out)
    have HV2 := hid (part_val hc2)
    rw [Hv.out, hz, show j - p + 1 = j + 1 - p by omega] at HV2
    rw [show j - p + 1 = j + 1 - p by omega] at HA2
    have v1 : IntKind.i64.wrap (10 * v) = 10 * v := IntWalk.i64_in _ (by omega)
    have v2 : IntKind.u8.wrap (z - 48) = z - 48 := by
      have e : IntKind.u8.wrap (z - 48) = (z - 48) % 256 := by simp [IntKind.wrap, IntKind.bits, IntKind.signed]
      rw [e]; omega
    have v3 : IntKind.i64.wrap (z - 48) = z - 48 := IntWalk.i64_in _ (by omega)
    have v4 : IntKind.i64.wrap (10 * v + (z - 48)) = 10 * v + (z - 48) := IntWalk.i64_in _ (by omega)
    have hj6 : j < p + 6 := by omega
    have HM := hid (atOf_eq HC.out)
    clear h1 h2 h3 h4 hc hc2 hz hdig
    go_wp2_with fail
    go_quiet (fail)
    have HC1 := hid (HC.out.keep (gr_drewN (gr0 wr) nq) (by simp))
    have Hg1 := hid (gr_drewN Hg.out nq)
    generalize wr.drewN nq = W at *
    clear c0 c1 HC Hg
    have c0 := HC1.out.c0
    have c1 := HC1.out.c1
    go_wp2_with fail
    go_quiet (fail)
    have HC2 := hid (HC1.out.keep (gr_drewN (gr0 W) nq) (by simp))
    have Hg2 := hid (gr_drewN Hg1.out nq)
    generalize W.drewN nq = W2 at *
    clear c0 c1 HC1 Hg1
    have c0 := HC2.out.c0
    have c1 := HC2.out.c1
    have f1 := HC2.out.f1
    go_wp2_with fail
    go_roundw
    case rel => exact ⟨j + 1, by omega, by omega, by omega, by rw [HV2.out], HA2, hid (HC2.out.set (j + 1)), gr_setCell Hg2.out (.inl rfl) _⟩
    case measure =>
      rw [HM.out]
      have := atOf_eq (HC2.out.set (j + 1))
      push_cast at this
      omega

set_option maxRecDepth 100000 in
set_option maxHeartbeats 1000000 in
theorem cskip_any (cb p : Nat) (l : List UInt8) (b : UInt8) (z : Int) (w : World) (hbz : (b.toNat : Int) = z) (h : CurAt w cb l p) (hp : p ≤ l.length) (hl : l.length ≤ 2000000) :
    Calls Tryz.prog 74 #[.pointer (some ⟨cb, 0, none⟩), .int .u8 z] w fun e w' => e = .returned (.tuple #[]) ∧ CurAt w' cb l (skipAt l b p) ∧ w.grownBy w' (some cb) := by
  have HC := hid h
  have c0 := h.c0
  have c1 := h.c1
  clear h
  by_cases h1 : p = l.length
  · have hd1 : decide (p < l.length) = false := by simp; omega
    have HE := hid (show skipAt l b p = p by unfold skipAt; rw [if_neg]; intro h; have := lt_of_at h; omega)
    clear h1
    go_enter Tryz.func74, Tryz.ntmps74
    go_wp2_with fail
    go_quiet (fail)
    go_wp2_with fail
    refine bodyPost_end (results_none rfl _ _ _) rfl ⟨rfl, ?_, gr_drewN (gr_refl _ _) _⟩
    rw [HE.out]; exact HC.out.keep (gr_drewN (gr0 _) _) (by simp)
  have hd1 : decide (p < l.length) = true := by simp; omega
  have hpl : p < l.length := by omega
  have hc := List.getElem?_eq_getElem hpl
  generalize l[p] = c at hc
  have hix := fun w => str_at w 9 l p c hc Tryz.underlying9
  obtain ⟨x, hx⟩ : ∃ x : Int, (c.toNat : Int) = x := ⟨_, rfl⟩
  rw [hx] at hix
  by_cases h2 : c = b
  · have hxz : x = z := by rw [← hx, ← hbz, h2]
    subst hxz
    have hd2 : (x == x) = true := by simp
    have HE := hid (show skipAt l b p = p + 1 by unfold skipAt; rw [if_pos]; rw [hc, h2])
    clear h1 h2 hc hx hbz
    go_enter Tryz.func74, Tryz.ntmps74
    go_wp2_with fail
    go_quiet (fail)
    have HC2 := hid (HC.out.keep (gr_drewN (gr0 w) nq) (by simp))
    have Hg2 := hid (gr_drewN (gr_refl w (some cb)) nq)
    generalize w.drewN nq = W2 at *
    clear c0 c1
    have c0 := HC2.out.c0
    have c1 := HC2.out.c1
    have f1 := HC2.out.f1
    go_wp2_with fail
    refine bodyPost_end (results_none rfl _ _ _) rfl ⟨rfl, ?_, gr_setCell Hg2.out (.inl rfl) _⟩
    rw [HE.out]; exact HC2.out.set (p + 1)
  · have hxz : ¬ x = z := by
      intro h
      exact h2 (UInt8.toNat_inj.1 (by omega))
    have hd2 : (x == z) = false := by simpa using hxz
    have HE := hid (show skipAt l b p = p by unfold skipAt; rw [if_neg]; rw [hc]; intro h; exact h2 (Option.some.inj h))
    clear h1 h2 hc hx hbz hxz
    go_enter Tryz.func74, Tryz.ntmps74
    go_wp2_with fail
    go_quiet (fail)
    go_wp2_with fail
    refine bodyPost_end (results_none rfl _ _ _) rfl ⟨rfl, ?_, gr_drewN (gr_refl _ _) _⟩
    rw [HE.out]; exact HC.out.keep (gr_drewN (gr0 _) _) (by simp)

theorem CurAt.other {w : World} {cb p : Nat} {l : List UInt8} (h : CurAt w cb l p) (q : Addr) (hq : q.block ≠ cb) (v : Value) : CurAt (w.setCell q v) cb l p := blk_set_other h q hq v
set_option maxRecDepth 100000 in
set_option maxHeartbeats 1000000 in
theorem cdate_any (cb p : Nat) (l : List UInt8) (w : World) (h : CurAt w cb l p) (hp : p ≤ l.length) (hl : l.length ≤ 2000000) :
    Calls Tryz.prog 75 #[.pointer (some ⟨cb, 0, none⟩)] w fun e w' => e = .returned (.agg #[.int .i64 (dY l p), .int .i64 (dM l p), .int .i64 (dD l p)]) ∧ CurAt w' cb l (dEnd l p) ∧ w.grownBy w' (some cb) := by
  have hlt : cb < w.heap.size := blk_lt h
  have HC0 := hid (((h.keep (gr_alloc (gr0 w) (Obj.cells #[.int .i64 0, .int .i64 0, .int .i64 0] 81)) (by simp)).keep (gr_alloc (gr0 _) (Obj.cells #[.int .i64 0, .int .i64 0, .int .i64 0] 81)) (by simp)))
  have Hz0 := hid (blk_alloc (heap_alloc_new w (Obj.cells #[.int .i64 0, .int .i64 0, .int .i64 0] 81)) (Obj.cells #[.int .i64 0, .int .i64 0, .int .i64 0] 81))
  have Hy0 : Hid (((w.alloc (Obj.cells #[.int .i64 0, .int .i64 0, .int .i64 0] 81)).alloc (Obj.cells #[.int .i64 0, .int .i64 0, .int .i64 0] 81)).heap[w.heap.size + 1]? = some (Obj.cells #[.int .i64 0, .int .i64 0, .int .i64 0] 81 (0, 0))) := hid (by
    have := heap_alloc_new (w.alloc (Obj.cells #[.int .i64 0, .int .i64 0, .int .i64 0] 81)) (Obj.cells #[.int .i64 0, .int .i64 0, .int .i64 0] 81)
    simpa using this)
  have Hg0 : Hid (w.grownBy ((w.alloc (Obj.cells #[.int .i64 0, .int .i64 0, .int .i64 0] 81)).alloc (Obj.cells #[.int .i64 0, .int .i64 0, .int .i64 0] 81)) (some cb)) := hid (gr_alloc (gr_alloc (gr_refl _ _) _) _)
  obtain ⟨q1, q2, q3⟩ := dend_le (l := l) hp
  have e1 := end_le (l := l) hp
  have e2 := end_le (l := l) q1
  have HN := hid (fun p wx (hx : CurAt wx cb l p) (hq : p ≤ l.length) => cnumber_any cb p l wx hx hq hl)
  have HS := hid (fun p wx (hx : CurAt wx cb l p) (hq : p ≤ l.length) => cskip_any cb p l 45 45 wx rfl hx hq hl)
  clear h
  go_enter Tryz.func75, Tryz.ntmps75
  go_wp2_with fail
  obtain ⟨D, hD⟩ : ∃ D, D = w.heap.size + 1 := ⟨_, rfl⟩
  rw [← hD] at Hy0 ⊢
  have hD1 : D ≠ w.heap.size := by omega
  have hD2 : D ≠ cb := by omega
  have hD3 : w.heap.size ≤ D := by omega
  generalize ((w.alloc (Obj.cells #[.int .i64 0, .int .i64 0, .int .i64 0] 81)).alloc (Obj.cells #[.int .i64 0, .int .i64 0, .int .i64 0] 81)) = W0 at *
  clear hD
  refine (HN.out (p) _ HC0.out hp).mono ?_
  rintro e' w1 ⟨rfl, hc, hg⟩
  have hz := blk_keep Hz0.out hg (by simp; omega)
  have hy := blk_keep Hy0.out hg (by simp; omega)
  have k0 := blk_frozen hy 0
  have y0 := blk_cell hy 0 _ rfl
  obtain ⟨x1, hx⟩ : ∃ x, numAt l (p) = x := ⟨_, rfl⟩
  have Hx1 := hid hx
  rw [hx]
  clear hx
  have Hz1 := hid (blk_set_other hz ⟨D, 0, none⟩ hD1 (.int .i64 x1))
  have Hy1 := hid ((blk_set hy 0 (.int .i64 x1)).trans (show _ = some (Obj.cells #[.int .i64 x1, .int .i64 0, .int .i64 0] 81 (0, 0)) from rfl))
  have HC1 := hid (hc.other ⟨D, 0, none⟩ hD2 (.int .i64 x1))
  have Hg1 := hid (gr_setCell (gr_transS Hg0.out hg) (p := ⟨D, 0, none⟩) (.inr hD3) (.int .i64 x1))
  clear hg hc hz hy
  go_wp2_with fail
  generalize (w1.setCell ⟨D, 0, none⟩ (.int .i64 x1)) = W1 at *
  clear k0 y0
  refine (HS.out (endAt l p) _ HC1.out e1).mono ?_
  rintro e' w2 ⟨rfl, hc, hg⟩
  have Hz2 := hid (blk_keep Hz1.out hg (by simp; omega))
  have Hy2 := hid (blk_keep Hy1.out hg (by simp; omega))
  have HC2 := hid hc
  have Hg2 := hid (gr_transS Hg1.out hg)
  clear hg hc
  go_wp2_with fail
  refine (HN.out (skipAt l 45 (endAt l p)) _ HC2.out q1).mono ?_
  rintro e' w3 ⟨rfl, hc, hg⟩
  have hz := blk_keep Hz2.out hg (by simp; omega)
  have hy := blk_keep Hy2.out hg (by simp; omega)
  have k0 := blk_frozen hy 1
  have y0 := blk_cell hy 1 _ rfl
  obtain ⟨x3, hx⟩ : ∃ x, numAt l (skipAt l 45 (endAt l p)) = x := ⟨_, rfl⟩
  have Hx3 := hid hx
  rw [hx]
  clear hx
  have Hz3 := hid (blk_set_other hz ⟨D, 1, none⟩ hD1 (.int .i64 x3))
  have Hy3 := hid ((blk_set hy 1 (.int .i64 x3)).trans (show _ = some (Obj.cells #[.int .i64 x1, .int .i64 x3, .int .i64 0] 81 (0, 0)) from rfl))
  have HC3 := hid (hc.other ⟨D, 1, none⟩ hD2 (.int .i64 x3))
  have Hg3 := hid (gr_setCell (gr_transS Hg2.out hg) (p := ⟨D, 1, none⟩) (.inr hD3) (.int .i64 x3))
  clear hg hc hz hy
  go_wp2_with fail
  generalize (w3.setCell ⟨D, 1, none⟩ (.int .i64 x3)) = W3 at *
  clear k0 y0
  refine (HS.out (endAt l (skipAt l 45 (endAt l p))) _ HC3.out e2).mono ?_
  rintro e' w4 ⟨rfl, hc, hg⟩
  have Hz4 := hid (blk_keep Hz3.out hg (by simp; omega))
  have Hy4 := hid (blk_keep Hy3.out hg (by simp; omega))
  have HC4 := hid hc
  have Hg4 := hid (gr_transS Hg3.out hg)
  clear hg hc
  go_wp2_with fail
  refine (HN.out (skipAt l 45 (endAt l (skipAt l 45 (endAt l p)))) _ HC4.out q2).mono ?_
  rintro e' w5 ⟨rfl, hc, hg⟩
  have hz := blk_keep Hz4.out hg (by simp; omega)
  have hy := blk_keep Hy4.out hg (by simp; omega)
  have k0 := blk_frozen hy 2
  have y0 := blk_cell hy 0 _ rfl
  have y1 := blk_cell hy 1 _ rfl
  have y2 := blk_cell hy 2 _ rfl
  have z0 := blk_cell hz 0 _ rfl
  have z1 := blk_cell hz 1 _ rfl
  have z2 := blk_cell hz 2 _ rfl
  have g0 := blk_frozen hz 0
  have g1 := blk_frozen hz 1
  have g2 := blk_frozen hz 2
  obtain ⟨x5, hx⟩ : ∃ x, numAt l (skipAt l 45 (endAt l (skipAt l 45 (endAt l p)))) = x := ⟨_, rfl⟩
  have Hx5 := hid hx
  rw [hx]
  have HC5 := hid hc
  have Hg5 := hid (gr_transS Hg4.out hg)
  have hD4 : cb ≠ w.heap.size := by omega
  have hD5 : w.heap.size ≠ D := fun e => hD1 e.symm
  clear hx hg hc hz hy
  go_wp2_with fail
  refine bodyPost_ret (v := .agg #[.int .i64 x1, .int .i64 x3, .int .i64 x5]) (by simp [results, Tryz.results75, go_sem, *]) rfl ⟨?_, ?_, ?_⟩
  · unfold dY dM dD dP2 dP1; rw [Hx1.out, Hx3.out, Hx5.out]
  · exact (((HC5.out.other _ hD2 _).other _ (Ne.symm hD4) _).other _ (Ne.symm hD4) _).other _ (Ne.symm hD4) _
  · exact gr_setCell (gr_setCell (gr_setCell (gr_setCell Hg5.out (.inr hD3) _) (.inr (Nat.le_refl _)) _) (.inr (Nat.le_refl _)) _) (.inr (Nat.le_refl _)) _

end Go.Proofs.YtielicmjdhmcjaaGreatDoor

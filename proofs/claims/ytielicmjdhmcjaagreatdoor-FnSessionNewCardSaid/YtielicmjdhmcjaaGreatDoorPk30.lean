/- Packed: GainWalk. -/
import Derived.Test.YtielicmjdhmcjaaGreatDoorRows
import Derived.Test.YtielicmjdhmcjaaGreatDoorPk22
import Derived.Deep.RegionHeld
import Derived.Deep.RegionLawGrows
/- The queue of the program: take, queueOf, GainOf. -/
namespace Go.Proofs.YtielicmjdhmcjaaGreatDoor
open Go.RowKit

structure TkSt (w0 wr : World) (qb TB : Nat) (a : Option Addr) (n cap : Nat) (ls : List Lot) (g left d p : Int) : Prop where
  q : wr.heap[qb]? = some (.cells #[.slice a n cap, .int .i64 g] 121 (0, 0))
  t : wr.heap[TB]? = some (.cells #[.int .i64 d, .int .i64 left, .int .i64 p] 98 (0, 0))
  s : Qs wr (qb + 1) a n cap ls
  far : 0 < cap → ∀ b off, a = some ⟨b, off, none⟩ → b ≠ TB
  b : Below qb w0 wr
  qT : qb < TB

section
variable {w0 wr : World} {qb TB : Nat} {a : Option Addr} {n cap : Nat} {ls : List Lot} {g left d p : Int}
theorem below_trans {B : Nat} {w w1 w2 : World} (h : Below B w w1) (k : Below B w1 w2) : Below B w w2 :=
  ⟨k.os.trans h.os, k.tape.trans h.tape, k.output.trans h.output, Nat.le_trans h.size k.size, fun i hi => (k.block i hi).trans (h.block i hi)⟩
theorem below_set {B : Nat} {w w1 : World} (h : Below B w w1) {p : Addr} (hp : B ≤ p.block) (v : Value) : Below B w (w1.setCell p v) :=
  ⟨h.os, h.tape, h.output, by simpa [World.setCell] using h.size, fun i hi => by rw [Below.heap_setCell _ _ _ _ (by omega)]; exact h.block i hi⟩
theorem below_gr0 {B : Nat} {w w1 w2 : World} (h : Below B w w1) (k : w1.grownBy w2 none) (hB : B ≤ w1.heap.size) : Below B w w2 :=
  below_trans h ⟨k.os, k.tape, k.output, k.size, fun i hi => k.block i (by omega) (by simp)⟩
theorem TkSt.lt (h : TkSt w0 wr qb TB a n cap ls g left d p) : qb < wr.heap.size := blk_lt h.q
theorem TkSt.grow (h : TkSt w0 wr qb TB a n cap ls g left d p) {w2 : World} (k : wr.grownBy w2 none) : TkSt w0 w2 qb TB a n cap ls g left d p :=
  ⟨blk_keep h.q k (by simp), blk_keep h.t k (by simp), h.s.keep0 k, h.far, below_gr0 h.b k (by have := h.lt; omega), h.qT⟩
theorem TkSt.qb_ne (h : TkSt w0 wr qb TB a n cap ls g left d p) (h0 : 0 < cap) {b off : Nat} (e : a = some ⟨b, off, none⟩) : qb ≠ b := by
  obtain ⟨b', off', e', h1, _⟩ := h.s.mem h0
  rw [e] at e'; cases e'
  omega
theorem TkSt.setGain (h : TkSt w0 wr qb TB a n cap ls g left d p) (g2 : Int) : TkSt w0 (wr.setCell ⟨qb, 1, none⟩ (.int .i64 g2)) qb TB a n cap ls g2 left d p := by
  have hqT := h.qT
  exact ⟨(blk_set h.q 1 _).trans rfl, blk_set_other h.t _ (by simp; omega) _, h.s.keep (gr_setCell (r := some qb) (gr_refl _ _) (.inl rfl) _) (fun h0 b off e e2 => by cases e2; exact h.qb_ne h0 e rfl), h.far, below_set h.b (by simp) _, h.qT⟩
theorem TkSt.setLeft (h : TkSt w0 wr qb TB a n cap ls g left d p) (l2 : Int) : TkSt w0 (wr.setCell ⟨TB, 1, none⟩ (.int .i64 l2)) qb TB a n cap ls g l2 d p := by
  have hqT := h.qT
  exact ⟨blk_set_other h.q _ (by simp; omega) _, (blk_set h.t 1 _).trans rfl, h.s.keep (gr_setCell (r := some TB) (gr_refl _ _) (.inl rfl) _) (fun h0 b off e e2 => by cases e2; exact h.far h0 _ _ e rfl), h.far, below_set h.b (by simp; omega) _, h.qT⟩
theorem TkSt.setMany {b off : Nat} {l : Lot} (h : TkSt w0 wr qb TB (some ⟨b, off, none⟩) n cap (l :: ls) g left d p) (m : Int) : TkSt w0 (wr.setCell ⟨b, off, none⟩ (.int .i64 m)) qb TB (some ⟨b, off, none⟩) n cap (⟨m, l.price⟩ :: ls) g left d p := by
  have hl := h.s.len
  have hn := h.s.nc
  simp only [List.length_cons] at hl
  have n1 := h.qb_ne (by omega) rfl
  have n2 := h.far (by omega) b off rfl
  obtain ⟨b', off', e, h1, _⟩ := h.s.mem (by omega)
  cases e
  exact ⟨blk_set_other h.q _ (fun e => n1 e.symm) _, blk_set_other h.t _ n2 _, h.s.setHead m, h.far, below_set h.b (by simp; omega) _, h.qT⟩
theorem TkSt.setLots (h : TkSt w0 wr qb TB a n cap ls g left d p) {a2 : Option Addr} {n2 cap2 : Nat} {ls2 : List Lot} (hs : Qs wr (qb + 1) a2 n2 cap2 ls2) (hf : 0 < cap2 → ∀ b off, a2 = some ⟨b, off, none⟩ → b ≠ TB) :
    TkSt w0 (wr.setCell ⟨qb, 0, none⟩ (.slice a2 n2 cap2)) qb TB a2 n2 cap2 ls2 g left d p := by
  have hqT := h.qT
  exact ⟨(blk_set h.q 0 _).trans rfl, blk_set_other h.t _ (by simp; omega) _, hs.keep (gr_setCell (r := some qb) (gr_refl _ _) (.inl rfl) _) (fun h0 b off e e2 => by
    cases e2
    obtain ⟨b', off', e', h1, _⟩ := hs.mem h0
    rw [e] at e'; cases e'
    omega), hf, below_set h.b (by simp) _, h.qT⟩
end

def leftOf (w : World) (TB : Nat) : Nat := match w.cell? ⟨TB, 1, none⟩ with | some v => if intOf v = 0 then 0 else 1 | none => 0
def lenOfQ (w : World) (qb : Nat) : Nat := match w.cell? ⟨qb, 0, none⟩ with | some (.slice _ n _) => n | _ => 0
theorem TkSt.meas {w0 wr : World} {qb TB : Nat} {a : Option Addr} {n cap : Nat} {ls : List Lot} {g left d p : Int} (h : TkSt w0 wr qb TB a n cap ls g left d p) : lenOfQ wr qb + leftOf wr TB = n + (if left = 0 then 0 else 1) := by
  unfold lenOfQ leftOf
  rw [blk_cell h.q 0 _ rfl, blk_cell h.t 1 _ rfl]
  rfl

set_option maxRecDepth 100000 in
set_option maxHeartbeats 4000000 in
theorem qtake_any (qb : Nat) (a : Option Addr) (n cap : Nat) (ls : List Lot) (g : Int) (t : Trade) (k : Nat) (w : World)
    (hq : w.heap[qb]? = some (.cells #[.slice a n cap, .int .i64 g] 121 (0, 0))) (hQ : Qs w (qb + 1) a n cap ls) (hL : Lots k (ls, g)) (hk : k ≤ 15) (ht : trB t = true) :
    Calls Tryz.prog 126 #[.pointer (some ⟨qb, 0, none⟩), .agg #[.int .i64 t.day, .int .i64 t.many, .int .i64 t.price]] w fun e w' => e = .returned (.tuple #[]) ∧ ∃ a' n' cap', w'.heap[qb]? = some (.cells #[.slice a' n' cap', .int .i64 (takeF (ls, g) t).2] 121 (0, 0)) ∧ Qs w' (qb + 1) a' n' cap' (takeF (ls, g) t).1 ∧ Below qb w w' := by
  obtain ⟨i0, hi, hz0, hz1, hz2⟩ := info_parts infoLotQ
  obtain ⟨day, many, p⟩ := t
  obtain ⟨_, m0, ⟨m1, m2⟩, p0, p1⟩ := trB_bd ht
  simp only at m0 m1 m2 p0 p1
  have hst := hL.start many
  simp only at hst
  have hok := hL.ok
  simp only at hok
  have hg0 : w.grownBy (w.alloc (.cells #[.int .i64 day, .int .i64 many, .int .i64 p] 98)) none := gr_alloc (gr0 _) _
  have HS0 : Hid (TkSt w (w.alloc (.cells #[.int .i64 day, .int .i64 many, .int .i64 p] 98)) qb w.heap.size a n cap ls g many day p) := hid
    ⟨blk_alloc hq _, heap_alloc_new w _, hQ.keep0 hg0, fun h0 b off e => (by
      obtain ⟨b', off', e', _, h2, _⟩ := hQ.mem h0
      rw [e] at e'; cases e'
      omega), below_gr0 (Below.refl _ _) hg0 (by have := blk_lt hq; omega), blk_lt hq⟩
  have HR := hid (show takeF (ls, g) ⟨day, many, p⟩ = (if (closeF p many ls g).2.1 = 0 then ((closeF p many ls g).1, (closeF p many ls g).2.2) else ((closeF p many ls g).1 ++ [⟨(closeF p many ls g).2.1, p⟩], (closeF p many ls g).2.2)) from rfl)
  generalize takeF (ls, g) ⟨day, many, p⟩ = R at *
  generalize hC : closeF p many ls g = C at *
  have HC0 := hid hC
  have Hok0 := hid hok
  clear hC hok hL hQ hq hg0 ht
  go_enter Tryz.func126, Tryz.ntmps126
  go_wp2_with fail
  go_loopw [4] (fun _ wr => ∃ (a : Option Addr) (n cap : Nat) (ls : List Lot) (g left : Int), Hid (TkSt w wr qb w.heap.size a n cap ls g left day p) ∧ Hid (∀ l ∈ ls, OkLot l) ∧ -9999 ≤ left ∧ left ≤ 9999 ∧ pot left ls g ≤ 500000000 * ((k : Int) + 1) ∧ Hid (closeF p left ls g = C)) (fun _ wr => lenOfQ wr qb + leftOf wr w.heap.size)
  case atStart => exact ⟨a, n, cap, ls, g, many, HS0, Hok0, m1, m2, hst, HC0⟩
  clear HS0 Hok0 hst HC0 m0 m1 m2
  case round =>
    obtain ⟨a, n, cap, ls, g, left, HS, Hok, hl1, hl2, hpot, HC⟩ := hrel
    have HM := hid HS.out.meas
    have hlen := HS.out.s.len
    have q0 := blk_cell HS.out.q 0 _ rfl
    have q1 := blk_cell HS.out.q 1 _ rfl
    have t0 := blk_cell HS.out.t 0 _ rfl
    have t1 := blk_cell HS.out.t 1 _ rfl
    have t2 := blk_cell HS.out.t 2 _ rfl
    have fq0 := blk_frozen HS.out.q 0
    have fq1 := blk_frozen HS.out.q 1
    have ft1 := blk_frozen HS.out.t 1
    by_cases hl0 : left = 0
    · subst hl0
      have HF := hid (show R = (ls, g) by rw [HR.out, ← HC.out, close_zero]; rfl)
      clear hpot hlen
      go_wp2_with fail
      go_quiet (fail)
      have HS2 := hid (HS.out.grow (gr_drewN (gr0 wr) nq))
      generalize (wr.drewN nq) = W2 at *
      clear q0 q1 t0 t1 t2 fq0 fq1 ft1 HS
      have q0 := blk_cell HS2.out.q 0 _ rfl
      have q1 := blk_cell HS2.out.q 1 _ rfl
      have t0 := blk_cell HS2.out.t 0 _ rfl
      have t1 := blk_cell HS2.out.t 1 _ rfl
      have t2 := blk_cell HS2.out.t 2 _ rfl
      have fq0 := blk_frozen HS2.out.q 0
      have fq1 := blk_frozen HS2.out.q 1
      have ft1 := blk_frozen HS2.out.t 1
      go_wp2_with fail
      refine bodyPost_end (results_none rfl _ _ _) rfl ⟨rfl, a, n, cap, ?_, ?_, HS2.out.b⟩
      · rw [HF.out]; exact HS2.out.q
      · rw [HF.out]; exact HS2.out.s
    have hlb : (left != 0) = true := by simpa using hl0
    rcases ls with _ | ⟨⟨lm, lp⟩, ls⟩
    · simp only [List.length_nil] at hlen
      subst hlen
      have HF := hid (show R = ([] ++ [⟨left, p⟩], g) by rw [HR.out, ← HC.out, close_nil, if_neg hl0])
      go_wp2_with fail
      go_quiet (fail)
      have HS2 := hid (HS.out.grow (gr_drewN (gr0 wr) nq))
      generalize (wr.drewN nq) = W2 at *
      clear q0 q1 t0 t1 t2 fq0 fq1 ft1 HS
      have q0 := blk_cell HS2.out.q 0 _ rfl
      have q1 := blk_cell HS2.out.q 1 _ rfl
      have t0 := blk_cell HS2.out.t 0 _ rfl
      have t1 := blk_cell HS2.out.t 1 _ rfl
      have t2 := blk_cell HS2.out.t 2 _ rfl
      have fq0 := blk_frozen HS2.out.q 0
      have fq1 := blk_frozen HS2.out.q 1
      have ft1 := blk_frozen HS2.out.t 1
      -- what is left becomes a lot
      have HS3 := hid ((HS2.out.grow (gr_alloc (gr0 _) (Obj.cells #[.int .i64 left, .int .i64 p] 133))).grow (gr_drew (gr0 _)))
      have hl2 := HS2.out.s.len
      have hnc := HS2.out.s.nc
      have hn16 : (0 : Int) ≤ 16 := by
        have h9 := (pot_bd hpot).2.2
        rw [hl2] at h9
        omega
      have hqT := HS2.out.qT
      clear hpot
      go_wp2_with fail
      refine wp_region_held_drew (S := fun w' => w'.heap[w.heap.size]? = some (.cells #[.int .i64 day, .int .i64 left, .int .i64 p] 98 (0, 0))) (by kernel_rfl) HS2.out.t (fun hHeld => ?_)
      refine wpAnyH_take (i := 0) (v := ?_) rfl (by kernel_rfl) (by kernel_rfl) (by kernel_rfl) (fun _ _ _ h => h) (Or.inl ⟨by rfl, ?_⟩) hHeld ?_
      rotate_left
      · intro w9 hSw
        clear hSw
        go_simp
        all_goals (try with_reducible rfl)
      (try simp only [Act.put, gA, gC, gD, gE, gF])
      refine wpAnyH_take (i := 1) (v := ?_) rfl (by kernel_rfl) (by kernel_rfl) (by kernel_rfl) (fun _ _ _ h => h) (Or.inl ⟨by rfl, ?_⟩) hHeld ?_
      rotate_left
      · intro w9 hSw
        clear hSw
        go_simp
        all_goals (try with_reducible rfl)
      (try simp only [Act.put, gA, gB, gC, gD, gE, gF])
      refine wpAnyH_take (i := 2) (v := ?_) rfl (by kernel_rfl) (by kernel_rfl) (by kernel_rfl) (fun _ _ _ h => h) (Or.inl ⟨by rfl, ?_⟩) hHeld ?_
      rotate_left
      · intro w9 hSw
        clear hSw
        go_simp
        all_goals (try with_reducible rfl)
      (try simp only [Act.put, gA, gB, gC, gD, gE, gF])
      refine wpAnyH_take (i := 3) (v := ?_) rfl (by kernel_rfl) (by kernel_rfl) (by kernel_rfl) (fun _ _ _ h => h) (Or.inl ⟨by rfl, ?_⟩) hHeld ?_
      rotate_left
      · intro w9 hSw
        clear hSw
        go_simp
        all_goals (try with_reducible rfl)
      (try simp only [Act.put, gA, gB, gC, gD, gE, gF])
      refine wpAnyH_take (i := 5) (v := ?_) rfl (by kernel_rfl) (by kernel_rfl) (by kernel_rfl) (fun _ _ _ h => h) (Or.inl ⟨by rfl, ?_⟩) hHeld ?_
      rotate_left
      · intro w9 hSw
        (have t1 := blk_cell hSw 1 _ rfl; have t2 := blk_cell hSw 2 _ rfl; clear hSw)
        go_simp
        all_goals (try with_reducible rfl)
      (try simp only [Act.put, gA, gB, gC, gD, gE, gF])
      refine wpAnyH_take (i := 6) (v := ?_) rfl (by kernel_rfl) (by kernel_rfl) (by kernel_rfl) (fun _ _ _ h => h) (Or.inl ⟨by rfl, ?_⟩) hHeld ?_
      rotate_left
      · intro w9 hSw
        (have t1 := blk_cell hSw 1 _ rfl; have t2 := blk_cell hSw 2 _ rfl; clear hSw)
        go_simp
        all_goals (try with_reducible rfl)
      (try simp only [Act.put, gA, gB, gC, gD, gE, gF])
      refine wpAnyH_take (i := 7) (v := ?_) rfl (by kernel_rfl) (by kernel_rfl) (by kernel_rfl) (fun _ _ _ h => h) (Or.inl ⟨by rfl, ?_⟩) hHeld ?_
      rotate_left
      · intro w9 hSw
        (have t1 := blk_cell hSw 1 _ rfl; have t2 := blk_cell hSw 2 _ rfl; clear hSw)
        go_simp
        all_goals (try with_reducible rfl)
      (try simp only [Act.put, gA, gB, gC, gD, gE, gF])
      refine wpAnyH_take (i := 8) (v := ?_) rfl (by kernel_rfl) (by kernel_rfl) (by kernel_rfl) (fun _ _ _ h => h) (Or.inl ⟨by rfl, ?_⟩) hHeld ?_
      rotate_left
      · intro w9 hSw
        (have t1 := blk_cell hSw 1 _ rfl; have t2 := blk_cell hSw 2 _ rfl; clear hSw)
        go_simp
        all_goals (try with_reducible rfl)
      (try simp only [Act.put, gA, gB, gC, gD, gE, gF])
      refine wpAnyH_take (i := 9) (v := ?_) rfl (by kernel_rfl) (by kernel_rfl) (by kernel_rfl) (fun _ _ _ h => h) (Or.inl ⟨by rfl, ?_⟩) hHeld ?_
      rotate_left
      · intro w9 hSw
        (have t1 := blk_cell hSw 1 _ rfl; have t2 := blk_cell hSw 2 _ rfl; clear hSw)
        go_simp
        all_goals (try with_reducible rfl)
      (try simp only [Act.put, gA, gB, gC, gD, gE, gF])
      refine wpAnyH_ready (rs := [4, 10]) (by kernel_rfl) (by simp) ?_
      refine AllReadyH.cons rfl (fun K' hK' => ?_) (AllReadyH.cons rfl (fun K' hK' => ?_) AllReadyH.nil)
      · go_simp
        (try simp only [])
        refine hK'.out _ _ hHeld (fun hHeldN => ?_)
        clear hK' K' hHeld
        have hHeld := hHeldN
        clear hHeldN
        (try simp only [Act.put, gA, gB, gC, gD, gE, gF])
        refine wpAnyH_ready (rs := [10]) (by kernel_rfl) (by simp) ?_
        refine AllReadyH.cons rfl (fun K' hK' => ?_) AllReadyH.nil
        go_simp
        (try simp only [])
        refine hK'.out _ _ (blk_alloc hHeld _) (fun hHeldN => ?_)
        clear hK' K' hHeld
        have hHeld := hHeldN
        clear hHeldN
        (try simp only [Act.put, gA, gB, gC, gD, gE, gF])
        refine wpAnyH_ready (rs := [11]) (by kernel_rfl) (by simp) ?_
        refine AllReadyH.cons rfl (fun K' hK' => ?_) AllReadyH.nil
        by_cases hroom : 0 + 1 ≤ cap
        · obtain ⟨b, off, eab, hb1, hb2, hb3, hb4, _⟩ := HS3.out.s.mem (by omega)
          cases eab
          have hbT := HS3.out.far (by omega) b off rfl
          refine step_append_room (by rfl) _ _ 99 (by rfl) 133 i0 2 Tryz.underlying99 hi hz1 b off 0 cap (by rfl) ⟨W2.heap.size, 0, none⟩ 1 1 [.int .i64 left, .int .i64 p] (by rfl) (by rfl) (lot_news _ _ _ rfl _ _) (by simp [Value.oneCell']) hroom ?_ ?_
          · intro j hj
            simp only [List.length_cons, List.length_nil] at hj
            refine ⟨?_, hb3 _⟩
            have := hb4 (0 * 2 + j) (by omega)
            rwa [← Nat.add_assoc] at this
          have HP := hid (HS3.out.s.push hroom ⟨left, p⟩)
          have hq4 := blk_set_other (blk_set_other HS3.out.q ⟨b, off + 0 * 2, none⟩ (by simp; omega) (.int .i64 left)) ⟨b, off + 0 * 2 + 1, none⟩ (by simp; omega) (.int .i64 p)
          have ht4 := blk_set_other (blk_set_other HS3.out.t ⟨b, off + 0 * 2, none⟩ hbT (.int .i64 left)) ⟨b, off + 0 * 2 + 1, none⟩ hbT (.int .i64 p)
          have HB4 := hid (below_set (below_set HS3.out.b (p := ⟨b, off + 0 * 2, none⟩) (by simp; omega) (.int .i64 left)) (p := ⟨b, off + 0 * 2 + 1, none⟩) (by simp; omega) (.int .i64 p))
          have HQ4 : Hid ((World.setCells (W2.alloc (Obj.cells #[.int .i64 left, .int .i64 p] 133)).drew b (off + 0 * 2) [.int .i64 left, .int .i64 p]).heap[qb]? = _) := hid hq4
          have HT4 : Hid ((World.setCells (W2.alloc (Obj.cells #[.int .i64 left, .int .i64 p] 133)).drew b (off + 0 * 2) [.int .i64 left, .int .i64 p]).heap[w.heap.size]? = _) := hid ht4
          have HB5 : Hid (Below qb w (World.setCells (W2.alloc (Obj.cells #[.int .i64 left, .int .i64 p] 133)).drew b (off + 0 * 2) [.int .i64 left, .int .i64 p])) := HB4
          clear hq4 ht4 HB4 HS3
          generalize (World.setCells (W2.alloc (Obj.cells #[.int .i64 left, .int .i64 p] 133)).drew b (off + 0 * 2) [.int .i64 left, .int .i64 p]) = W5 at *
          (try clear q0 q1 t0 t1 t2 fq0 fq1 ft1)
          (try simp only [])
          refine hK'.out _ _ HT4.out (fun hHeldN => ?_)
          clear hK' K' hHeld
          have hHeld := hHeldN
          clear hHeldN
          (try simp only [Act.put, gA, gB, gC, gD, gE, gF])
          refine wpAnyH_take (i := 12) (v := ?_) rfl (by kernel_rfl) (by kernel_rfl) (by kernel_rfl) (fun _ _ _ h => h) (Or.inl ⟨by rfl, ?_⟩) hHeld ?_
          rotate_left
          · intro w9 hSw
            clear hSw
            go_simp
            all_goals (try with_reducible rfl)
          (try simp only [Act.put, gA, gB, gC, gD, gE, gF])
          refine wpAnyH_take (i := 13) (v := ?_) rfl (by kernel_rfl) (by kernel_rfl) (by kernel_rfl) (fun _ _ _ h => h) (Or.inl ⟨by rfl, ?_⟩) hHeld ?_
          rotate_left
          · intro w9 hSw
            clear hSw
            go_simp
            all_goals (try with_reducible rfl)
          (try simp only [Act.put, gA, gB, gC, gD, gE, gF])
          have q0 := blk_cell HQ4.out 0 _ rfl
          have fq0 := blk_frozen HQ4.out 0
          refine wpAnyH_ready (rs := [14]) (by kernel_rfl) (by simp) ?_
          refine AllReadyH.cons rfl (fun K' hK' => ?_) AllReadyH.nil
          go_simp
          (try simp only [])
          refine hK'.out _ _ (blk_set_other HT4.out ⟨qb, 0, none⟩ (by simp; omega) _) (fun hHeldN => ?_)
          clear hK' K' hHeld
          have hHeld := hHeldN
          clear hHeldN
          (try simp only [Act.put, gA, gB, gC, gD, gE, gF])
          refine wpAnyH_done (by kernel_rfl) ?_ _
          go_wp2_with fail
          refine bodyPost_end (results_none rfl _ _ _) rfl ⟨rfl, some ⟨b, off, none⟩, 0 + 1, cap, ?_, ?_, below_set HB5.out (by simp) _⟩
          · rw [HF.out]; exact (blk_set HQ4.out 0 _).trans rfl
          · rw [HF.out]; exact HP.out.keep (gr_setCell (r := some qb) (gr_refl _ _) (.inl rfl) _) (fun _ b9 off9 e e2 => by cases e; cases e2; omega)
        · refine step_append_grows (by rfl) _ _ 99 (by rfl) 133 i0 _ 2 16 Tryz.underlying99 hi hz0 hz1 hz2 (by rfl) (by decide) _ 0 cap (List.flatMap lotL.cells ([] : List Lot)) (by rfl) ?_ ?_ HS3.out.s.olds ⟨W2.heap.size, 0, none⟩ 1 1 [.int .i64 left, .int .i64 p] (by rfl) (by rfl) (lot_news _ _ _ rfl _ _) (by simp [Value.oneCell']) ?_ ?_ ?_ ?_
          · intro h; have := HS3.out.s.nil h; omega
          · rw [flat_len, hl2]; rfl
          · omega
          · unfold maxLen; omega
          · omega
          intro v' W5 hown hgrow
          have hown2 : W5.ownsRow (W2.alloc (Obj.cells #[.int .i64 left, .int .i64 p] 133)).drew.heap.size 133 2 v' (0 + 1) (List.flatMap lotL.cells (([] : List Lot) ++ [⟨left, p⟩])) := by rw [List.flatMap_append]; exact hown
          obtain ⟨g9, cap9, rfl, hge, hQ9⟩ := Qs.of_own hown2 (by rw [List.length_append, hl2]; rfl) (by omega) (by have := (HS3.out.grow hgrow).lt; omega)
          have HS5 := hid (HS3.out.grow hgrow)
          have hlt3 := HS3.out.lt
          have HQ9 := hid (hQ9.mono (show qb + 1 ≤ _ by omega))
          clear hown hown2 hgrow hQ9 HS3
          (try clear q0 q1 t0 t1 t2 fq0 fq1 ft1)
          (try simp only [])
          refine hK'.out _ _ HS5.out.t (fun hHeldN => ?_)
          clear hK' K' hHeld
          have hHeld := hHeldN
          clear hHeldN
          (try simp only [Act.put, gA, gB, gC, gD, gE, gF])
          refine wpAnyH_take (i := 12) (v := ?_) rfl (by kernel_rfl) (by kernel_rfl) (by kernel_rfl) (fun _ _ _ h => h) (Or.inl ⟨by rfl, ?_⟩) hHeld ?_
          rotate_left
          · intro w9 hSw
            clear hSw
            go_simp
            all_goals (try with_reducible rfl)
          (try simp only [Act.put, gA, gB, gC, gD, gE, gF])
          refine wpAnyH_take (i := 13) (v := ?_) rfl (by kernel_rfl) (by kernel_rfl) (by kernel_rfl) (fun _ _ _ h => h) (Or.inl ⟨by rfl, ?_⟩) hHeld ?_
          rotate_left
          · intro w9 hSw
            clear hSw
            go_simp
            all_goals (try with_reducible rfl)
          (try simp only [Act.put, gA, gB, gC, gD, gE, gF])
          have q0 := blk_cell HS5.out.q 0 _ rfl
          have fq0 := blk_frozen HS5.out.q 0
          refine wpAnyH_ready (rs := [14]) (by kernel_rfl) (by simp) ?_
          refine AllReadyH.cons rfl (fun K' hK' => ?_) AllReadyH.nil
          go_simp
          (try simp only [])
          refine hK'.out _ _ (blk_set_other HS5.out.t ⟨qb, 0, none⟩ (by simp; omega) _) (fun hHeldN => ?_)
          clear hK' K' hHeld
          have hHeld := hHeldN
          clear hHeldN
          (try simp only [Act.put, gA, gB, gC, gD, gE, gF])
          refine wpAnyH_done (by kernel_rfl) ?_ _
          go_wp2_with fail
          refine bodyPost_end (results_none rfl _ _ _) rfl ⟨rfl, some ⟨g9, 0, none⟩, 0 + 1, cap9, ?_, ?_, below_set HS5.out.b (by simp) _⟩
          · rw [HF.out]; exact (blk_set HS5.out.q 0 _).trans rfl
          · rw [HF.out]; exact HQ9.out.keep (gr_setCell (r := some qb) (gr_refl _ _) (.inl rfl) _) (fun _ b9 off9 e e2 => by cases e; cases e2; omega)
      · go_simp
        (try simp only [])
        refine hK'.out _ _ (blk_alloc hHeld _) (fun hHeldN => ?_)
        clear hK' K' hHeld
        have hHeld := hHeldN
        clear hHeldN
        (try simp only [Act.put, gA, gB, gC, gD, gE, gF])
        have q0 := blk_cell HS3.out.q 0 _ rfl
        refine wpAnyH_ready (rs := [4]) (by kernel_rfl) (by simp) ?_
        refine AllReadyH.cons rfl (fun K' hK' => ?_) AllReadyH.nil
        go_simp
        (try simp only [])
        refine hK'.out _ _ hHeld (fun hHeldN => ?_)
        clear hK' K' hHeld
        have hHeld := hHeldN
        clear hHeldN
        (try simp only [Act.put, gA, gB, gC, gD, gE, gF])
        refine wpAnyH_ready (rs := [11]) (by kernel_rfl) (by simp) ?_
        refine AllReadyH.cons rfl (fun K' hK' => ?_) AllReadyH.nil
        by_cases hroom : 0 + 1 ≤ cap
        · obtain ⟨b, off, eab, hb1, hb2, hb3, hb4, _⟩ := HS3.out.s.mem (by omega)
          cases eab
          have hbT := HS3.out.far (by omega) b off rfl
          refine step_append_room (by rfl) _ _ 99 (by rfl) 133 i0 2 Tryz.underlying99 hi hz1 b off 0 cap (by rfl) ⟨W2.heap.size, 0, none⟩ 1 1 [.int .i64 left, .int .i64 p] (by rfl) (by rfl) (lot_news _ _ _ rfl _ _) (by simp [Value.oneCell']) hroom ?_ ?_
          · intro j hj
            simp only [List.length_cons, List.length_nil] at hj
            refine ⟨?_, hb3 _⟩
            have := hb4 (0 * 2 + j) (by omega)
            rwa [← Nat.add_assoc] at this
          have HP := hid (HS3.out.s.push hroom ⟨left, p⟩)
          have hq4 := blk_set_other (blk_set_other HS3.out.q ⟨b, off + 0 * 2, none⟩ (by simp; omega) (.int .i64 left)) ⟨b, off + 0 * 2 + 1, none⟩ (by simp; omega) (.int .i64 p)
          have ht4 := blk_set_other (blk_set_other HS3.out.t ⟨b, off + 0 * 2, none⟩ hbT (.int .i64 left)) ⟨b, off + 0 * 2 + 1, none⟩ hbT (.int .i64 p)
          have HB4 := hid (below_set (below_set HS3.out.b (p := ⟨b, off + 0 * 2, none⟩) (by simp; omega) (.int .i64 left)) (p := ⟨b, off + 0 * 2 + 1, none⟩) (by simp; omega) (.int .i64 p))
          have HQ4 : Hid ((World.setCells (W2.alloc (Obj.cells #[.int .i64 left, .int .i64 p] 133)).drew b (off + 0 * 2) [.int .i64 left, .int .i64 p]).heap[qb]? = _) := hid hq4
          have HT4 : Hid ((World.setCells (W2.alloc (Obj.cells #[.int .i64 left, .int .i64 p] 133)).drew b (off + 0 * 2) [.int .i64 left, .int .i64 p]).heap[w.heap.size]? = _) := hid ht4
          have HB5 : Hid (Below qb w (World.setCells (W2.alloc (Obj.cells #[.int .i64 left, .int .i64 p] 133)).drew b (off + 0 * 2) [.int .i64 left, .int .i64 p])) := HB4
          clear hq4 ht4 HB4 HS3
          generalize (World.setCells (W2.alloc (Obj.cells #[.int .i64 left, .int .i64 p] 133)).drew b (off + 0 * 2) [.int .i64 left, .int .i64 p]) = W5 at *
          (try clear q0 q1 t0 t1 t2 fq0 fq1 ft1)
          (try simp only [])
          refine hK'.out _ _ HT4.out (fun hHeldN => ?_)
          clear hK' K' hHeld
          have hHeld := hHeldN
          clear hHeldN
          (try simp only [Act.put, gA, gB, gC, gD, gE, gF])
          refine wpAnyH_take (i := 12) (v := ?_) rfl (by kernel_rfl) (by kernel_rfl) (by kernel_rfl) (fun _ _ _ h => h) (Or.inl ⟨by rfl, ?_⟩) hHeld ?_
          rotate_left
          · intro w9 hSw
            clear hSw
            go_simp
            all_goals (try with_reducible rfl)
          (try simp only [Act.put, gA, gB, gC, gD, gE, gF])
          refine wpAnyH_take (i := 13) (v := ?_) rfl (by kernel_rfl) (by kernel_rfl) (by kernel_rfl) (fun _ _ _ h => h) (Or.inl ⟨by rfl, ?_⟩) hHeld ?_
          rotate_left
          · intro w9 hSw
            clear hSw
            go_simp
            all_goals (try with_reducible rfl)
          (try simp only [Act.put, gA, gB, gC, gD, gE, gF])
          have q0 := blk_cell HQ4.out 0 _ rfl
          have fq0 := blk_frozen HQ4.out 0
          refine wpAnyH_ready (rs := [14]) (by kernel_rfl) (by simp) ?_
          refine AllReadyH.cons rfl (fun K' hK' => ?_) AllReadyH.nil
          go_simp
          (try simp only [])
          refine hK'.out _ _ (blk_set_other HT4.out ⟨qb, 0, none⟩ (by simp; omega) _) (fun hHeldN => ?_)
          clear hK' K' hHeld
          have hHeld := hHeldN
          clear hHeldN
          (try simp only [Act.put, gA, gB, gC, gD, gE, gF])
          refine wpAnyH_done (by kernel_rfl) ?_ _
          go_wp2_with fail
          refine bodyPost_end (results_none rfl _ _ _) rfl ⟨rfl, some ⟨b, off, none⟩, 0 + 1, cap, ?_, ?_, below_set HB5.out (by simp) _⟩
          · rw [HF.out]; exact (blk_set HQ4.out 0 _).trans rfl
          · rw [HF.out]; exact HP.out.keep (gr_setCell (r := some qb) (gr_refl _ _) (.inl rfl) _) (fun _ b9 off9 e e2 => by cases e; cases e2; omega)
        · refine step_append_grows (by rfl) _ _ 99 (by rfl) 133 i0 _ 2 16 Tryz.underlying99 hi hz0 hz1 hz2 (by rfl) (by decide) _ 0 cap (List.flatMap lotL.cells ([] : List Lot)) (by rfl) ?_ ?_ HS3.out.s.olds ⟨W2.heap.size, 0, none⟩ 1 1 [.int .i64 left, .int .i64 p] (by rfl) (by rfl) (lot_news _ _ _ rfl _ _) (by simp [Value.oneCell']) ?_ ?_ ?_ ?_
          · intro h; have := HS3.out.s.nil h; omega
          · rw [flat_len, hl2]; rfl
          · omega
          · unfold maxLen; omega
          · omega
          intro v' W5 hown hgrow
          have hown2 : W5.ownsRow (W2.alloc (Obj.cells #[.int .i64 left, .int .i64 p] 133)).drew.heap.size 133 2 v' (0 + 1) (List.flatMap lotL.cells (([] : List Lot) ++ [⟨left, p⟩])) := by rw [List.flatMap_append]; exact hown
          obtain ⟨g9, cap9, rfl, hge, hQ9⟩ := Qs.of_own hown2 (by rw [List.length_append, hl2]; rfl) (by omega) (by have := (HS3.out.grow hgrow).lt; omega)
          have HS5 := hid (HS3.out.grow hgrow)
          have hlt3 := HS3.out.lt
          have HQ9 := hid (hQ9.mono (show qb + 1 ≤ _ by omega))
          clear hown hown2 hgrow hQ9 HS3
          (try clear q0 q1 t0 t1 t2 fq0 fq1 ft1)
          (try simp only [])
          refine hK'.out _ _ HS5.out.t (fun hHeldN => ?_)
          clear hK' K' hHeld
          have hHeld := hHeldN
          clear hHeldN
          (try simp only [Act.put, gA, gB, gC, gD, gE, gF])
          refine wpAnyH_take (i := 12) (v := ?_) rfl (by kernel_rfl) (by kernel_rfl) (by kernel_rfl) (fun _ _ _ h => h) (Or.inl ⟨by rfl, ?_⟩) hHeld ?_
          rotate_left
          · intro w9 hSw
            clear hSw
            go_simp
            all_goals (try with_reducible rfl)
          (try simp only [Act.put, gA, gB, gC, gD, gE, gF])
          refine wpAnyH_take (i := 13) (v := ?_) rfl (by kernel_rfl) (by kernel_rfl) (by kernel_rfl) (fun _ _ _ h => h) (Or.inl ⟨by rfl, ?_⟩) hHeld ?_
          rotate_left
          · intro w9 hSw
            clear hSw
            go_simp
            all_goals (try with_reducible rfl)
          (try simp only [Act.put, gA, gB, gC, gD, gE, gF])
          have q0 := blk_cell HS5.out.q 0 _ rfl
          have fq0 := blk_frozen HS5.out.q 0
          refine wpAnyH_ready (rs := [14]) (by kernel_rfl) (by simp) ?_
          refine AllReadyH.cons rfl (fun K' hK' => ?_) AllReadyH.nil
          go_simp
          (try simp only [])
          refine hK'.out _ _ (blk_set_other HS5.out.t ⟨qb, 0, none⟩ (by simp; omega) _) (fun hHeldN => ?_)
          clear hK' K' hHeld
          have hHeld := hHeldN
          clear hHeldN
          (try simp only [Act.put, gA, gB, gC, gD, gE, gF])
          refine wpAnyH_done (by kernel_rfl) ?_ _
          go_wp2_with fail
          refine bodyPost_end (results_none rfl _ _ _) rfl ⟨rfl, some ⟨g9, 0, none⟩, 0 + 1, cap9, ?_, ?_, below_set HS5.out.b (by simp) _⟩
          · rw [HF.out]; exact (blk_set HS5.out.q 0 _).trans rfl
          · rw [HF.out]; exact HQ9.out.keep (gr_setCell (r := some qb) (gr_refl _ _) (.inl rfl) _) (fun _ b9 off9 e e2 => by cases e; cases e2; omega)
    · have hn1 : 1 ≤ n := by simp only [List.length_cons] at hlen; omega
      have hn0 : decide ((0 : Int) < n) = true := by simp; omega
      have hi0 : (0 : Int) < n := by omega
      have hi0n : 0 < n := by omega
      obtain ⟨b, off, rfl, _, _, _, _, _⟩ := HS.out.s.head
      obtain ⟨b9, off9, e9, _, _, lf, l0, l1⟩ := HS.out.s.head
      simp only [Option.some.injEq, Addr.mk.injEq, and_true] at e9
      obtain ⟨rfl, rfl⟩ := e9
      have lf0 := lf off
      clear lf
      simp only at l0 l1
      have hlk := Hok.out ⟨lm, lp⟩ (by simp)
      have hk0 := hlk.n0; have hklo := hlk.lo; have hkhi := hlk.hi; have hp0 := hlk.p0; have hp1 := hlk.p1
      simp only at hk0 hklo hkhi hp0 hp1
      by_cases hsl : 0 < left
      · have hd1 : decide (0 < left) = true := by simpa using hsl
        by_cases hsm : 0 < lm
        · have hd2 : decide (0 < lm) = true := by simpa using hsm
          have HF := hid (show R = (⟨lm, lp⟩ :: ls ++ [⟨left, p⟩], g) by rw [HR.out, ← HC.out, close_stop (by unfold meets; simp only [hd1, hd2]; simp), if_neg hl0])
          clear hk0 hklo hkhi hp0 hp1 hsl hsm hlk
          go_wp2_with fail
          go_quiet (fail)
          have HS2 := hid (HS.out.grow (gr_drewN (gr0 wr) nq))
          generalize (wr.drewN nq) = W2 at *
          clear q0 q1 t0 t1 t2 fq0 fq1 ft1 HS
          have q0 := blk_cell HS2.out.q 0 _ rfl
          have q1 := blk_cell HS2.out.q 1 _ rfl
          have t0 := blk_cell HS2.out.t 0 _ rfl
          have t1 := blk_cell HS2.out.t 1 _ rfl
          have t2 := blk_cell HS2.out.t 2 _ rfl
          have fq0 := blk_frozen HS2.out.q 0
          have fq1 := blk_frozen HS2.out.q 1
          have ft1 := blk_frozen HS2.out.t 1
          clear l0 l1 lf0
          -- what is left becomes a lot
          have HS3 := hid ((HS2.out.grow (gr_alloc (gr0 _) (Obj.cells #[.int .i64 left, .int .i64 p] 133))).grow (gr_drew (gr0 _)))
          have hl2 := HS2.out.s.len
          have hnc := HS2.out.s.nc
          have hn16 : (n : Int) ≤ 16 := by
            have h9 := (pot_bd hpot).2.2
            rw [hl2] at h9
            omega
          have hqT := HS2.out.qT
          clear hpot
          go_wp2_with fail
          refine wp_region_held_drew (S := fun w' => w'.heap[w.heap.size]? = some (.cells #[.int .i64 day, .int .i64 left, .int .i64 p] 98 (0, 0))) (by kernel_rfl) HS2.out.t (fun hHeld => ?_)
          refine wpAnyH_take (i := 0) (v := ?_) rfl (by kernel_rfl) (by kernel_rfl) (by kernel_rfl) (fun _ _ _ h => h) (Or.inl ⟨by rfl, ?_⟩) hHeld ?_
          rotate_left
          · intro w9 hSw
            clear hSw
            go_simp
            all_goals (try with_reducible rfl)
          (try simp only [Act.put, gA, gC, gD, gE, gF])
          refine wpAnyH_take (i := 1) (v := ?_) rfl (by kernel_rfl) (by kernel_rfl) (by kernel_rfl) (fun _ _ _ h => h) (Or.inl ⟨by rfl, ?_⟩) hHeld ?_
          rotate_left
          · intro w9 hSw
            clear hSw
            go_simp
            all_goals (try with_reducible rfl)
          (try simp only [Act.put, gA, gB, gC, gD, gE, gF])
          refine wpAnyH_take (i := 2) (v := ?_) rfl (by kernel_rfl) (by kernel_rfl) (by kernel_rfl) (fun _ _ _ h => h) (Or.inl ⟨by rfl, ?_⟩) hHeld ?_
          rotate_left
          · intro w9 hSw
            clear hSw
            go_simp
            all_goals (try with_reducible rfl)
          (try simp only [Act.put, gA, gB, gC, gD, gE, gF])
          refine wpAnyH_take (i := 3) (v := ?_) rfl (by kernel_rfl) (by kernel_rfl) (by kernel_rfl) (fun _ _ _ h => h) (Or.inl ⟨by rfl, ?_⟩) hHeld ?_
          rotate_left
          · intro w9 hSw
            clear hSw
            go_simp
            all_goals (try with_reducible rfl)
          (try simp only [Act.put, gA, gB, gC, gD, gE, gF])
          refine wpAnyH_take (i := 5) (v := ?_) rfl (by kernel_rfl) (by kernel_rfl) (by kernel_rfl) (fun _ _ _ h => h) (Or.inl ⟨by rfl, ?_⟩) hHeld ?_
          rotate_left
          · intro w9 hSw
            (have t1 := blk_cell hSw 1 _ rfl; have t2 := blk_cell hSw 2 _ rfl; clear hSw)
            go_simp
            all_goals (try with_reducible rfl)
          (try simp only [Act.put, gA, gB, gC, gD, gE, gF])
          refine wpAnyH_take (i := 6) (v := ?_) rfl (by kernel_rfl) (by kernel_rfl) (by kernel_rfl) (fun _ _ _ h => h) (Or.inl ⟨by rfl, ?_⟩) hHeld ?_
          rotate_left
          · intro w9 hSw
            (have t1 := blk_cell hSw 1 _ rfl; have t2 := blk_cell hSw 2 _ rfl; clear hSw)
            go_simp
            all_goals (try with_reducible rfl)
          (try simp only [Act.put, gA, gB, gC, gD, gE, gF])
          refine wpAnyH_take (i := 7) (v := ?_) rfl (by kernel_rfl) (by kernel_rfl) (by kernel_rfl) (fun _ _ _ h => h) (Or.inl ⟨by rfl, ?_⟩) hHeld ?_
          rotate_left
          · intro w9 hSw
            (have t1 := blk_cell hSw 1 _ rfl; have t2 := blk_cell hSw 2 _ rfl; clear hSw)
            go_simp
            all_goals (try with_reducible rfl)
          (try simp only [Act.put, gA, gB, gC, gD, gE, gF])
          refine wpAnyH_take (i := 8) (v := ?_) rfl (by kernel_rfl) (by kernel_rfl) (by kernel_rfl) (fun _ _ _ h => h) (Or.inl ⟨by rfl, ?_⟩) hHeld ?_
          rotate_left
          · intro w9 hSw
            (have t1 := blk_cell hSw 1 _ rfl; have t2 := blk_cell hSw 2 _ rfl; clear hSw)
            go_simp
            all_goals (try with_reducible rfl)
          (try simp only [Act.put, gA, gB, gC, gD, gE, gF])
          refine wpAnyH_take (i := 9) (v := ?_) rfl (by kernel_rfl) (by kernel_rfl) (by kernel_rfl) (fun _ _ _ h => h) (Or.inl ⟨by rfl, ?_⟩) hHeld ?_
          rotate_left
          · intro w9 hSw
            (have t1 := blk_cell hSw 1 _ rfl; have t2 := blk_cell hSw 2 _ rfl; clear hSw)
            go_simp
            all_goals (try with_reducible rfl)
          (try simp only [Act.put, gA, gB, gC, gD, gE, gF])
          refine wpAnyH_ready (rs := [4, 10]) (by kernel_rfl) (by simp) ?_
          refine AllReadyH.cons rfl (fun K' hK' => ?_) (AllReadyH.cons rfl (fun K' hK' => ?_) AllReadyH.nil)
          · go_simp
            (try simp only [])
            refine hK'.out _ _ hHeld (fun hHeldN => ?_)
            clear hK' K' hHeld
            have hHeld := hHeldN
            clear hHeldN
            (try simp only [Act.put, gA, gB, gC, gD, gE, gF])
            refine wpAnyH_ready (rs := [10]) (by kernel_rfl) (by simp) ?_
            refine AllReadyH.cons rfl (fun K' hK' => ?_) AllReadyH.nil
            go_simp
            (try simp only [])
            refine hK'.out _ _ (blk_alloc hHeld _) (fun hHeldN => ?_)
            clear hK' K' hHeld
            have hHeld := hHeldN
            clear hHeldN
            (try simp only [Act.put, gA, gB, gC, gD, gE, gF])
            refine wpAnyH_ready (rs := [11]) (by kernel_rfl) (by simp) ?_
            refine AllReadyH.cons rfl (fun K' hK' => ?_) AllReadyH.nil
            by_cases hroom : n + 1 ≤ cap
            · obtain ⟨b, off, eab, hb1, hb2, hb3, hb4, _⟩ := HS3.out.s.mem (by omega)
              cases eab
              have hbT := HS3.out.far (by omega) b off rfl
              refine step_append_room (by rfl) _ _ 99 (by rfl) 133 i0 2 Tryz.underlying99 hi hz1 b off n cap (by rfl) ⟨W2.heap.size, 0, none⟩ 1 1 [.int .i64 left, .int .i64 p] (by rfl) (by rfl) (lot_news _ _ _ rfl _ _) (by simp [Value.oneCell']) hroom ?_ ?_
              · intro j hj
                simp only [List.length_cons, List.length_nil] at hj
                refine ⟨?_, hb3 _⟩
                have := hb4 (n * 2 + j) (by omega)
                rwa [← Nat.add_assoc] at this
              have HP := hid (HS3.out.s.push hroom ⟨left, p⟩)
              have hq4 := blk_set_other (blk_set_other HS3.out.q ⟨b, off + n * 2, none⟩ (by simp; omega) (.int .i64 left)) ⟨b, off + n * 2 + 1, none⟩ (by simp; omega) (.int .i64 p)
              have ht4 := blk_set_other (blk_set_other HS3.out.t ⟨b, off + n * 2, none⟩ hbT (.int .i64 left)) ⟨b, off + n * 2 + 1, none⟩ hbT (.int .i64 p)
              have HB4 := hid (below_set (below_set HS3.out.b (p := ⟨b, off + n * 2, none⟩) (by simp; omega) (.int .i64 left)) (p := ⟨b, off + n * 2 + 1, none⟩) (by simp; omega) (.int .i64 p))
              have HQ4 : Hid ((World.setCells (W2.alloc (Obj.cells #[.int .i64 left, .int .i64 p] 133)).drew b (off + n * 2) [.int .i64 left, .int .i64 p]).heap[qb]? = _) := hid hq4
              have HT4 : Hid ((World.setCells (W2.alloc (Obj.cells #[.int .i64 left, .int .i64 p] 133)).drew b (off + n * 2) [.int .i64 left, .int .i64 p]).heap[w.heap.size]? = _) := hid ht4
              have HB5 : Hid (Below qb w (World.setCells (W2.alloc (Obj.cells #[.int .i64 left, .int .i64 p] 133)).drew b (off + n * 2) [.int .i64 left, .int .i64 p])) := HB4
              clear hq4 ht4 HB4 HS3
              generalize (World.setCells (W2.alloc (Obj.cells #[.int .i64 left, .int .i64 p] 133)).drew b (off + n * 2) [.int .i64 left, .int .i64 p]) = W5 at *
              (try clear q0 q1 t0 t1 t2 fq0 fq1 ft1)
              (try simp only [])
              refine hK'.out _ _ HT4.out (fun hHeldN => ?_)
              clear hK' K' hHeld
              have hHeld := hHeldN
              clear hHeldN
              (try simp only [Act.put, gA, gB, gC, gD, gE, gF])
              refine wpAnyH_take (i := 12) (v := ?_) rfl (by kernel_rfl) (by kernel_rfl) (by kernel_rfl) (fun _ _ _ h => h) (Or.inl ⟨by rfl, ?_⟩) hHeld ?_
              rotate_left
              · intro w9 hSw
                clear hSw
                go_simp
                all_goals (try with_reducible rfl)
              (try simp only [Act.put, gA, gB, gC, gD, gE, gF])
              refine wpAnyH_take (i := 13) (v := ?_) rfl (by kernel_rfl) (by kernel_rfl) (by kernel_rfl) (fun _ _ _ h => h) (Or.inl ⟨by rfl, ?_⟩) hHeld ?_
              rotate_left
              · intro w9 hSw
                clear hSw
                go_simp
                all_goals (try with_reducible rfl)
              (try simp only [Act.put, gA, gB, gC, gD, gE, gF])
              have q0 := blk_cell HQ4.out 0 _ rfl
              have fq0 := blk_frozen HQ4.out 0
              refine wpAnyH_ready (rs := [14]) (by kernel_rfl) (by simp) ?_
              refine AllReadyH.cons rfl (fun K' hK' => ?_) AllReadyH.nil
              go_simp
              (try simp only [])
              refine hK'.out _ _ (blk_set_other HT4.out ⟨qb, 0, none⟩ (by simp; omega) _) (fun hHeldN => ?_)
              clear hK' K' hHeld
              have hHeld := hHeldN
              clear hHeldN
              (try simp only [Act.put, gA, gB, gC, gD, gE, gF])
              refine wpAnyH_done (by kernel_rfl) ?_ _
              go_wp2_with fail
              refine bodyPost_end (results_none rfl _ _ _) rfl ⟨rfl, some ⟨b, off, none⟩, n + 1, cap, ?_, ?_, below_set HB5.out (by simp) _⟩
              · rw [HF.out]; exact (blk_set HQ4.out 0 _).trans rfl
              · rw [HF.out]; exact HP.out.keep (gr_setCell (r := some qb) (gr_refl _ _) (.inl rfl) _) (fun _ b9 off9 e e2 => by cases e; cases e2; omega)
            · refine step_append_grows (by rfl) _ _ 99 (by rfl) 133 i0 _ 2 16 Tryz.underlying99 hi hz0 hz1 hz2 (by rfl) (by decide) _ n cap (List.flatMap lotL.cells (⟨lm, lp⟩ :: ls)) (by rfl) ?_ ?_ HS3.out.s.olds ⟨W2.heap.size, 0, none⟩ 1 1 [.int .i64 left, .int .i64 p] (by rfl) (by rfl) (lot_news _ _ _ rfl _ _) (by simp [Value.oneCell']) ?_ ?_ ?_ ?_
              · intro h; have := HS3.out.s.nil h; omega
              · rw [flat_len, hl2]; rfl
              · omega
              · unfold maxLen; omega
              · omega
              intro v' W5 hown hgrow
              have hown2 : W5.ownsRow (W2.alloc (Obj.cells #[.int .i64 left, .int .i64 p] 133)).drew.heap.size 133 2 v' (n + 1) (List.flatMap lotL.cells ((⟨lm, lp⟩ :: ls) ++ [⟨left, p⟩])) := by rw [List.flatMap_append]; exact hown
              obtain ⟨g9, cap9, rfl, hge, hQ9⟩ := Qs.of_own hown2 (by rw [List.length_append, hl2]; rfl) (by omega) (by have := (HS3.out.grow hgrow).lt; omega)
              have HS5 := hid (HS3.out.grow hgrow)
              have hlt3 := HS3.out.lt
              have HQ9 := hid (hQ9.mono (show qb + 1 ≤ _ by omega))
              clear hown hown2 hgrow hQ9 HS3
              (try clear q0 q1 t0 t1 t2 fq0 fq1 ft1)
              (try simp only [])
              refine hK'.out _ _ HS5.out.t (fun hHeldN => ?_)
              clear hK' K' hHeld
              have hHeld := hHeldN
              clear hHeldN
              (try simp only [Act.put, gA, gB, gC, gD, gE, gF])
              refine wpAnyH_take (i := 12) (v := ?_) rfl (by kernel_rfl) (by kernel_rfl) (by kernel_rfl) (fun _ _ _ h => h) (Or.inl ⟨by rfl, ?_⟩) hHeld ?_
              rotate_left
              · intro w9 hSw
                clear hSw
                go_simp
                all_goals (try with_reducible rfl)
              (try simp only [Act.put, gA, gB, gC, gD, gE, gF])
              refine wpAnyH_take (i := 13) (v := ?_) rfl (by kernel_rfl) (by kernel_rfl) (by kernel_rfl) (fun _ _ _ h => h) (Or.inl ⟨by rfl, ?_⟩) hHeld ?_
              rotate_left
              · intro w9 hSw
                clear hSw
                go_simp
                all_goals (try with_reducible rfl)
              (try simp only [Act.put, gA, gB, gC, gD, gE, gF])
              have q0 := blk_cell HS5.out.q 0 _ rfl
              have fq0 := blk_frozen HS5.out.q 0
              refine wpAnyH_ready (rs := [14]) (by kernel_rfl) (by simp) ?_
              refine AllReadyH.cons rfl (fun K' hK' => ?_) AllReadyH.nil
              go_simp
              (try simp only [])
              refine hK'.out _ _ (blk_set_other HS5.out.t ⟨qb, 0, none⟩ (by simp; omega) _) (fun hHeldN => ?_)
              clear hK' K' hHeld
              have hHeld := hHeldN
              clear hHeldN
              (try simp only [Act.put, gA, gB, gC, gD, gE, gF])
              refine wpAnyH_done (by kernel_rfl) ?_ _
              go_wp2_with fail
              refine bodyPost_end (results_none rfl _ _ _) rfl ⟨rfl, some ⟨g9, 0, none⟩, n + 1, cap9, ?_, ?_, below_set HS5.out.b (by simp) _⟩
              · rw [HF.out]; exact (blk_set HS5.out.q 0 _).trans rfl
              · rw [HF.out]; exact HQ9.out.keep (gr_setCell (r := some qb) (gr_refl _ _) (.inl rfl) _) (fun _ b9 off9 e e2 => by cases e; cases e2; omega)
          · go_simp
            (try simp only [])
            refine hK'.out _ _ (blk_alloc hHeld _) (fun hHeldN => ?_)
            clear hK' K' hHeld
            have hHeld := hHeldN
            clear hHeldN
            (try simp only [Act.put, gA, gB, gC, gD, gE, gF])
            have q0 := blk_cell HS3.out.q 0 _ rfl
            refine wpAnyH_ready (rs := [4]) (by kernel_rfl) (by simp) ?_
            refine AllReadyH.cons rfl (fun K' hK' => ?_) AllReadyH.nil
            go_simp
            (try simp only [])
            refine hK'.out _ _ hHeld (fun hHeldN => ?_)
            clear hK' K' hHeld
            have hHeld := hHeldN
            clear hHeldN
            (try simp only [Act.put, gA, gB, gC, gD, gE, gF])
            refine wpAnyH_ready (rs := [11]) (by kernel_rfl) (by simp) ?_
            refine AllReadyH.cons rfl (fun K' hK' => ?_) AllReadyH.nil
            by_cases hroom : n + 1 ≤ cap
            · obtain ⟨b, off, eab, hb1, hb2, hb3, hb4, _⟩ := HS3.out.s.mem (by omega)
              cases eab
              have hbT := HS3.out.far (by omega) b off rfl
              refine step_append_room (by rfl) _ _ 99 (by rfl) 133 i0 2 Tryz.underlying99 hi hz1 b off n cap (by rfl) ⟨W2.heap.size, 0, none⟩ 1 1 [.int .i64 left, .int .i64 p] (by rfl) (by rfl) (lot_news _ _ _ rfl _ _) (by simp [Value.oneCell']) hroom ?_ ?_
              · intro j hj
                simp only [List.length_cons, List.length_nil] at hj
                refine ⟨?_, hb3 _⟩
                have := hb4 (n * 2 + j) (by omega)
                rwa [← Nat.add_assoc] at this
              have HP := hid (HS3.out.s.push hroom ⟨left, p⟩)
              have hq4 := blk_set_other (blk_set_other HS3.out.q ⟨b, off + n * 2, none⟩ (by simp; omega) (.int .i64 left)) ⟨b, off + n * 2 + 1, none⟩ (by simp; omega) (.int .i64 p)
              have ht4 := blk_set_other (blk_set_other HS3.out.t ⟨b, off + n * 2, none⟩ hbT (.int .i64 left)) ⟨b, off + n * 2 + 1, none⟩ hbT (.int .i64 p)
              have HB4 := hid (below_set (below_set HS3.out.b (p := ⟨b, off + n * 2, none⟩) (by simp; omega) (.int .i64 left)) (p := ⟨b, off + n * 2 + 1, none⟩) (by simp; omega) (.int .i64 p))
              have HQ4 : Hid ((World.setCells (W2.alloc (Obj.cells #[.int .i64 left, .int .i64 p] 133)).drew b (off + n * 2) [.int .i64 left, .int .i64 p]).heap[qb]? = _) := hid hq4
              have HT4 : Hid ((World.setCells (W2.alloc (Obj.cells #[.int .i64 left, .int .i64 p] 133)).drew b (off + n * 2) [.int .i64 left, .int .i64 p]).heap[w.heap.size]? = _) := hid ht4
              have HB5 : Hid (Below qb w (World.setCells (W2.alloc (Obj.cells #[.int .i64 left, .int .i64 p] 133)).drew b (off + n * 2) [.int .i64 left, .int .i64 p])) := HB4
              clear hq4 ht4 HB4 HS3
              generalize (World.setCells (W2.alloc (Obj.cells #[.int .i64 left, .int .i64 p] 133)).drew b (off + n * 2) [.int .i64 left, .int .i64 p]) = W5 at *
              (try clear q0 q1 t0 t1 t2 fq0 fq1 ft1)
              (try simp only [])
              refine hK'.out _ _ HT4.out (fun hHeldN => ?_)
              clear hK' K' hHeld
              have hHeld := hHeldN
              clear hHeldN
              (try simp only [Act.put, gA, gB, gC, gD, gE, gF])
              refine wpAnyH_take (i := 12) (v := ?_) rfl (by kernel_rfl) (by kernel_rfl) (by kernel_rfl) (fun _ _ _ h => h) (Or.inl ⟨by rfl, ?_⟩) hHeld ?_
              rotate_left
              · intro w9 hSw
                clear hSw
                go_simp
                all_goals (try with_reducible rfl)
              (try simp only [Act.put, gA, gB, gC, gD, gE, gF])
              refine wpAnyH_take (i := 13) (v := ?_) rfl (by kernel_rfl) (by kernel_rfl) (by kernel_rfl) (fun _ _ _ h => h) (Or.inl ⟨by rfl, ?_⟩) hHeld ?_
              rotate_left
              · intro w9 hSw
                clear hSw
                go_simp
                all_goals (try with_reducible rfl)
              (try simp only [Act.put, gA, gB, gC, gD, gE, gF])
              have q0 := blk_cell HQ4.out 0 _ rfl
              have fq0 := blk_frozen HQ4.out 0
              refine wpAnyH_ready (rs := [14]) (by kernel_rfl) (by simp) ?_
              refine AllReadyH.cons rfl (fun K' hK' => ?_) AllReadyH.nil
              go_simp
              (try simp only [])
              refine hK'.out _ _ (blk_set_other HT4.out ⟨qb, 0, none⟩ (by simp; omega) _) (fun hHeldN => ?_)
              clear hK' K' hHeld
              have hHeld := hHeldN
              clear hHeldN
              (try simp only [Act.put, gA, gB, gC, gD, gE, gF])
              refine wpAnyH_done (by kernel_rfl) ?_ _
              go_wp2_with fail
              refine bodyPost_end (results_none rfl _ _ _) rfl ⟨rfl, some ⟨b, off, none⟩, n + 1, cap, ?_, ?_, below_set HB5.out (by simp) _⟩
              · rw [HF.out]; exact (blk_set HQ4.out 0 _).trans rfl
              · rw [HF.out]; exact HP.out.keep (gr_setCell (r := some qb) (gr_refl _ _) (.inl rfl) _) (fun _ b9 off9 e e2 => by cases e; cases e2; omega)
            · refine step_append_grows (by rfl) _ _ 99 (by rfl) 133 i0 _ 2 16 Tryz.underlying99 hi hz0 hz1 hz2 (by rfl) (by decide) _ n cap (List.flatMap lotL.cells (⟨lm, lp⟩ :: ls)) (by rfl) ?_ ?_ HS3.out.s.olds ⟨W2.heap.size, 0, none⟩ 1 1 [.int .i64 left, .int .i64 p] (by rfl) (by rfl) (lot_news _ _ _ rfl _ _) (by simp [Value.oneCell']) ?_ ?_ ?_ ?_
              · intro h; have := HS3.out.s.nil h; omega
              · rw [flat_len, hl2]; rfl
              · omega
              · unfold maxLen; omega
              · omega
              intro v' W5 hown hgrow
              have hown2 : W5.ownsRow (W2.alloc (Obj.cells #[.int .i64 left, .int .i64 p] 133)).drew.heap.size 133 2 v' (n + 1) (List.flatMap lotL.cells ((⟨lm, lp⟩ :: ls) ++ [⟨left, p⟩])) := by rw [List.flatMap_append]; exact hown
              obtain ⟨g9, cap9, rfl, hge, hQ9⟩ := Qs.of_own hown2 (by rw [List.length_append, hl2]; rfl) (by omega) (by have := (HS3.out.grow hgrow).lt; omega)
              have HS5 := hid (HS3.out.grow hgrow)
              have hlt3 := HS3.out.lt
              have HQ9 := hid (hQ9.mono (show qb + 1 ≤ _ by omega))
              clear hown hown2 hgrow hQ9 HS3
              (try clear q0 q1 t0 t1 t2 fq0 fq1 ft1)
              (try simp only [])
              refine hK'.out _ _ HS5.out.t (fun hHeldN => ?_)
              clear hK' K' hHeld
              have hHeld := hHeldN
              clear hHeldN
              (try simp only [Act.put, gA, gB, gC, gD, gE, gF])
              refine wpAnyH_take (i := 12) (v := ?_) rfl (by kernel_rfl) (by kernel_rfl) (by kernel_rfl) (fun _ _ _ h => h) (Or.inl ⟨by rfl, ?_⟩) hHeld ?_
              rotate_left
              · intro w9 hSw
                clear hSw
                go_simp
                all_goals (try with_reducible rfl)
              (try simp only [Act.put, gA, gB, gC, gD, gE, gF])
              refine wpAnyH_take (i := 13) (v := ?_) rfl (by kernel_rfl) (by kernel_rfl) (by kernel_rfl) (fun _ _ _ h => h) (Or.inl ⟨by rfl, ?_⟩) hHeld ?_
              rotate_left
              · intro w9 hSw
                clear hSw
                go_simp
                all_goals (try with_reducible rfl)
              (try simp only [Act.put, gA, gB, gC, gD, gE, gF])
              have q0 := blk_cell HS5.out.q 0 _ rfl
              have fq0 := blk_frozen HS5.out.q 0
              refine wpAnyH_ready (rs := [14]) (by kernel_rfl) (by simp) ?_
              refine AllReadyH.cons rfl (fun K' hK' => ?_) AllReadyH.nil
              go_simp
              (try simp only [])
              refine hK'.out _ _ (blk_set_other HS5.out.t ⟨qb, 0, none⟩ (by simp; omega) _) (fun hHeldN => ?_)
              clear hK' K' hHeld
              have hHeld := hHeldN
              clear hHeldN
              (try simp only [Act.put, gA, gB, gC, gD, gE, gF])
              refine wpAnyH_done (by kernel_rfl) ?_ _
              go_wp2_with fail
              refine bodyPost_end (results_none rfl _ _ _) rfl ⟨rfl, some ⟨g9, 0, none⟩, n + 1, cap9, ?_, ?_, below_set HS5.out.b (by simp) _⟩
              · rw [HF.out]; exact (blk_set HS5.out.q 0 _).trans rfl
              · rw [HF.out]; exact HQ9.out.keep (gr_setCell (r := some qb) (gr_refl _ _) (.inl rfl) _) (fun _ b9 off9 e e2 => by cases e; cases e2; omega)
        · have hd2 : decide (0 < lm) = false := by simpa using hsm
          have hc1 : lm < -lm := by omega
          have hc2 : ¬ left < -left := by omega
          have hmt : meets left ⟨lm, lp⟩ = true := by unfold meets; rw [hlb]; simp only [hd1, hd2]; rfl
          obtain ⟨_, hNb, hpart, hRb, hMb⟩ := meets_facts hmt hlk hl1 hl2
          have hGb := lotG_bd hmt hlk hl1 hl2 p0 p1
          have hgb := pot_bd hpot
          have HCd := hid (fun hz => (close_drop (g := g) (ls := ls) (p := p) hmt hz).symm.trans HC.out)
          have HCp := hid (fun hz => (close_part (g := g) (ls := ls) (p := p) hmt hz hlk hl1 hl2).symm.trans HC.out)
          have HPd := hid (Int.le_trans (pot_drop (g := g) (ls := ls) hmt hlk hl1 hl2 p0 p1) hpot)
          have HPp := hid (fun hz => Int.le_trans (pot_part (g := g) (ls := ls) (l2 := ⟨lotM left ⟨lm, lp⟩, lp⟩) hmt hz hlk hl1 hl2 p0 p1) hpot)
          have e3 : (if left < (-lm) then left else (-lm)) = lotN left ⟨lm, lp⟩ := by unfold lotN; simp only; split <;> omega
          have v4e : lotN left ⟨lm, lp⟩ * ((lp - p)) = lotG p left ⟨lm, lp⟩ := by unfold lotG; simp only; first | rw [if_pos (by omega)] | rw [if_neg (by omega)]
          have v6e : left - lotN left ⟨lm, lp⟩ = lotR left ⟨lm, lp⟩ := by unfold lotR; first | rw [if_pos (by omega)] | rw [if_neg (by omega)]
          have v7e : lm + lotN left ⟨lm, lp⟩ = lotM left ⟨lm, lp⟩ := by unfold lotM; simp only; first | rw [if_pos (by omega)] | rw [if_neg (by omega)]
          generalize lotN left ⟨lm, lp⟩ = N at *
          generalize lotG p left ⟨lm, lp⟩ = G at *
          generalize lotR left ⟨lm, lp⟩ = L2 at *
          generalize lotM left ⟨lm, lp⟩ = M at *
          have v1 : IntKind.i64.wrap (-lm) = -lm := IntWalk.i64_in _ (by omega)
          have v2 : IntKind.i64.wrap (-left) = -left := IntWalk.i64_in _ (by omega)
          have v3 : IntKind.i64.wrap ((lp - p)) = (lp - p) := IntWalk.i64_in _ (by omega)
          have v4 : IntKind.i64.wrap (N * ((lp - p))) = G := by rw [v4e]; exact IntWalk.i64_in _ (by omega)
          have v5 : IntKind.i64.wrap (g + G) = g + G := IntWalk.i64_in _ (by omega)
          have v6 : IntKind.i64.wrap (left - N) = L2 := by rw [v6e]; exact IntWalk.i64_in _ (by omega)
          have v7 : IntKind.i64.wrap (lm + N) = M := by rw [v7e]; exact IntWalk.i64_in _ (by omega)
          clear v4e v6e v7e hGb hgb hpot hmt HC
          go_wp2_with fail
          go_quiet (fail)
          have HS2 := hid (HS.out.grow (gr_drewN (gr0 wr) nq))
          generalize (wr.drewN nq) = W2 at *
          clear q0 q1 t0 t1 t2 fq0 fq1 ft1 l0 l1 lf0 HS
          have q0 := blk_cell HS2.out.q 0 _ rfl
          have q1 := blk_cell HS2.out.q 1 _ rfl
          have t0 := blk_cell HS2.out.t 0 _ rfl
          have t1 := blk_cell HS2.out.t 1 _ rfl
          have t2 := blk_cell HS2.out.t 2 _ rfl
          have fq0 := blk_frozen HS2.out.q 0
          have fq1 := blk_frozen HS2.out.q 1
          have ft1 := blk_frozen HS2.out.t 1
          obtain ⟨b9, off9, e9, _, _, lf, l0, l1⟩ := HS2.out.s.head
          simp only [Option.some.injEq, Addr.mk.injEq, and_true] at e9
          obtain ⟨rfl, rfl⟩ := e9
          have lf0 := lf off
          clear lf
          simp only at l0 l1
          go_wp2_with fail
          go_quiet (fail)
          have HS3 := hid (HS2.out.grow (gr_drewN (gr0 W2) nq))
          generalize (W2.drewN nq) = W3 at *
          clear q0 q1 t0 t1 t2 fq0 fq1 ft1 l0 l1 lf0 HS2
          have q0 := blk_cell HS3.out.q 0 _ rfl
          have q1 := blk_cell HS3.out.q 1 _ rfl
          have t0 := blk_cell HS3.out.t 0 _ rfl
          have t1 := blk_cell HS3.out.t 1 _ rfl
          have t2 := blk_cell HS3.out.t 2 _ rfl
          have fq0 := blk_frozen HS3.out.q 0
          have fq1 := blk_frozen HS3.out.q 1
          have ft1 := blk_frozen HS3.out.t 1
          obtain ⟨b9, off9, e9, _, _, lf, l0, l1⟩ := HS3.out.s.head
          simp only [Option.some.injEq, Addr.mk.injEq, and_true] at e9
          obtain ⟨rfl, rfl⟩ := e9
          have lf0 := lf off
          clear lf
          simp only at l0 l1
          have hqT := HS3.out.qT
          have hncl := HS3.out.s.nc
          have x1 : ¬ qb = w.heap.size := by omega
          have x2 : ¬ w.heap.size = qb := by omega
          have x3 : ¬ qb = b := HS3.out.qb_ne (by omega) rfl
          have x4 : ¬ b = qb := fun e => x3 e.symm
          have x5 : ¬ b = w.heap.size := HS3.out.far (by omega) b off rfl
          have x6 : ¬ w.heap.size = b := fun e => x5 e.symm
          have hsl3 := HS3.out.s.tail.1
          have HSm := hid ((((HS3.out.grow (gr_drew (gr0 _))).setGain (g + G)).setLeft L2).setMany M)
          by_cases hz : M = 0
          · have hzb : (M == 0) = true := by simpa using hz
            have HSd := hid (HSm.out.setLots HSm.out.s.tail.2 (fun _ b9 off9 e9 => by cases e9; exact x5))
            have HCn := hid (HCd.out hz)
            clear hz HCd HCp HPp hpart hMb hlk hk0 hklo hkhi hp0 hp1 HSm HS3
            go_wp2_with fail
            go_still_tail 14, (by kernel_rfl)
            change wpList _ _ _ _ _ W3.drew
            go_wp2_with fail
            go_roundw
            case rel => exact ⟨_, n - 1, cap - 1, ls, g + G, L2, HSd, hid (fun l hl => Hok.out l (by simp [hl])), hRb.2, hRb.1, HPd.out, HCn⟩
            case measure =>
              rw [HM.out]
              refine Nat.lt_of_le_of_lt (Nat.le_of_eq HSd.out.meas) ?_
              rw [if_neg hl0]
              split <;> omega
          · have hzb : (M == 0) = false := by simpa using hz
            have HCn := hid (HCp.out hz)
            have HPn := hid (HPp.out hz)
            have HL20 := hid (hpart hz)
            have Hokn : Hid (∀ l ∈ (⟨M, lp⟩ :: ls : List Lot), OkLot l) := hid (fun l hl => by
              rcases List.mem_cons.1 hl with rfl | hl
              · exact ⟨hz, hMb.2, hMb.1, hp0, hp1⟩
              · exact Hok.out l (by simp [hl]))
            clear hz HCd HCp HPp HPd hMb hlk hk0 hklo hkhi hp0 hp1 HS3 hsl3 hpart
            go_wp2_with fail
            go_still_tail 14, (by kernel_rfl)
            change wpList _ _ _ _ _ W3.drew
            go_wp2_with fail
            go_roundw
            case rel => exact ⟨_, n, cap, ⟨M, lp⟩ :: ls, g + G, L2, HSm, Hokn, hRb.2, hRb.1, HPn.out, HCn⟩
            case measure =>
              rw [HM.out]
              refine Nat.lt_of_le_of_lt (Nat.le_of_eq HSm.out.meas) ?_
              rw [if_neg hl0, if_pos HL20.out]
              omega
      · have hd1 : decide (0 < left) = false := by simpa using hsl
        by_cases hsm : 0 < lm
        · have hd2 : decide (0 < lm) = true := by simpa using hsm
          have hc1 : ¬ lm < -lm := by omega
          have hc2 : left < -left := by omega
          have hmt : meets left ⟨lm, lp⟩ = true := by unfold meets; rw [hlb]; simp only [hd1, hd2]; rfl
          obtain ⟨_, hNb, hpart, hRb, hMb⟩ := meets_facts hmt hlk hl1 hl2
          have hGb := lotG_bd hmt hlk hl1 hl2 p0 p1
          have hgb := pot_bd hpot
          have HCd := hid (fun hz => (close_drop (g := g) (ls := ls) (p := p) hmt hz).symm.trans HC.out)
          have HCp := hid (fun hz => (close_part (g := g) (ls := ls) (p := p) hmt hz hlk hl1 hl2).symm.trans HC.out)
          have HPd := hid (Int.le_trans (pot_drop (g := g) (ls := ls) hmt hlk hl1 hl2 p0 p1) hpot)
          have HPp := hid (fun hz => Int.le_trans (pot_part (g := g) (ls := ls) (l2 := ⟨lotM left ⟨lm, lp⟩, lp⟩) hmt hz hlk hl1 hl2 p0 p1) hpot)
          have e3 : (if (-left) < lm then (-left) else lm) = lotN left ⟨lm, lp⟩ := by unfold lotN; simp only; split <;> omega
          have v4e : lotN left ⟨lm, lp⟩ * ((p - lp)) = lotG p left ⟨lm, lp⟩ := by unfold lotG; simp only; first | rw [if_pos (by omega)] | rw [if_neg (by omega)]
          have v6e : left + lotN left ⟨lm, lp⟩ = lotR left ⟨lm, lp⟩ := by unfold lotR; first | rw [if_pos (by omega)] | rw [if_neg (by omega)]
          have v7e : lm - lotN left ⟨lm, lp⟩ = lotM left ⟨lm, lp⟩ := by unfold lotM; simp only; first | rw [if_pos (by omega)] | rw [if_neg (by omega)]
          generalize lotN left ⟨lm, lp⟩ = N at *
          generalize lotG p left ⟨lm, lp⟩ = G at *
          generalize lotR left ⟨lm, lp⟩ = L2 at *
          generalize lotM left ⟨lm, lp⟩ = M at *
          have v1 : IntKind.i64.wrap (-lm) = -lm := IntWalk.i64_in _ (by omega)
          have v2 : IntKind.i64.wrap (-left) = -left := IntWalk.i64_in _ (by omega)
          have v3 : IntKind.i64.wrap ((p - lp)) = (p - lp) := IntWalk.i64_in _ (by omega)
          have v4 : IntKind.i64.wrap (N * ((p - lp))) = G := by rw [v4e]; exact IntWalk.i64_in _ (by omega)
          have v5 : IntKind.i64.wrap (g + G) = g + G := IntWalk.i64_in _ (by omega)
          have v6 : IntKind.i64.wrap (left + N) = L2 := by rw [v6e]; exact IntWalk.i64_in _ (by omega)
          have v7 : IntKind.i64.wrap (lm - N) = M := by rw [v7e]; exact IntWalk.i64_in _ (by omega)
          clear v4e v6e v7e hGb hgb hpot hmt HC
          go_wp2_with fail
          go_quiet (fail)
          have HS2 := hid (HS.out.grow (gr_drewN (gr0 wr) nq))
          generalize (wr.drewN nq) = W2 at *
          clear q0 q1 t0 t1 t2 fq0 fq1 ft1 l0 l1 lf0 HS
          have q0 := blk_cell HS2.out.q 0 _ rfl
          have q1 := blk_cell HS2.out.q 1 _ rfl
          have t0 := blk_cell HS2.out.t 0 _ rfl
          have t1 := blk_cell HS2.out.t 1 _ rfl
          have t2 := blk_cell HS2.out.t 2 _ rfl
          have fq0 := blk_frozen HS2.out.q 0
          have fq1 := blk_frozen HS2.out.q 1
          have ft1 := blk_frozen HS2.out.t 1
          obtain ⟨b9, off9, e9, _, _, lf, l0, l1⟩ := HS2.out.s.head
          simp only [Option.some.injEq, Addr.mk.injEq, and_true] at e9
          obtain ⟨rfl, rfl⟩ := e9
          have lf0 := lf off
          clear lf
          simp only at l0 l1
          go_wp2_with fail
          go_quiet (fail)
          have HS3 := hid (HS2.out.grow (gr_drewN (gr0 W2) nq))
          generalize (W2.drewN nq) = W3 at *
          clear q0 q1 t0 t1 t2 fq0 fq1 ft1 l0 l1 lf0 HS2
          have q0 := blk_cell HS3.out.q 0 _ rfl
          have q1 := blk_cell HS3.out.q 1 _ rfl
          have t0 := blk_cell HS3.out.t 0 _ rfl
          have t1 := blk_cell HS3.out.t 1 _ rfl
          have t2 := blk_cell HS3.out.t 2 _ rfl
          have fq0 := blk_frozen HS3.out.q 0
          have fq1 := blk_frozen HS3.out.q 1
          have ft1 := blk_frozen HS3.out.t 1
          obtain ⟨b9, off9, e9, _, _, lf, l0, l1⟩ := HS3.out.s.head
          simp only [Option.some.injEq, Addr.mk.injEq, and_true] at e9
          obtain ⟨rfl, rfl⟩ := e9
          have lf0 := lf off
          clear lf
          simp only at l0 l1
          have hqT := HS3.out.qT
          have hncl := HS3.out.s.nc
          have x1 : ¬ qb = w.heap.size := by omega
          have x2 : ¬ w.heap.size = qb := by omega
          have x3 : ¬ qb = b := HS3.out.qb_ne (by omega) rfl
          have x4 : ¬ b = qb := fun e => x3 e.symm
          have x5 : ¬ b = w.heap.size := HS3.out.far (by omega) b off rfl
          have x6 : ¬ w.heap.size = b := fun e => x5 e.symm
          have hsl3 := HS3.out.s.tail.1
          have HSm := hid ((((HS3.out.grow (gr_drew (gr0 _))).setGain (g + G)).setLeft L2).setMany M)
          by_cases hz : M = 0
          · have hzb : (M == 0) = true := by simpa using hz
            have HSd := hid (HSm.out.setLots HSm.out.s.tail.2 (fun _ b9 off9 e9 => by cases e9; exact x5))
            have HCn := hid (HCd.out hz)
            clear hz HCd HCp HPp hpart hMb hlk hk0 hklo hkhi hp0 hp1 HSm HS3
            go_wp2_with fail
            go_still_tail 14, (by kernel_rfl)
            change wpList _ _ _ _ _ W3.drew
            go_wp2_with fail
            go_roundw
            case rel => exact ⟨_, n - 1, cap - 1, ls, g + G, L2, HSd, hid (fun l hl => Hok.out l (by simp [hl])), hRb.2, hRb.1, HPd.out, HCn⟩
            case measure =>
              rw [HM.out]
              refine Nat.lt_of_le_of_lt (Nat.le_of_eq HSd.out.meas) ?_
              rw [if_neg hl0]
              split <;> omega
          · have hzb : (M == 0) = false := by simpa using hz
            have HCn := hid (HCp.out hz)
            have HPn := hid (HPp.out hz)
            have HL20 := hid (hpart hz)
            have Hokn : Hid (∀ l ∈ (⟨M, lp⟩ :: ls : List Lot), OkLot l) := hid (fun l hl => by
              rcases List.mem_cons.1 hl with rfl | hl
              · exact ⟨hz, hMb.2, hMb.1, hp0, hp1⟩
              · exact Hok.out l (by simp [hl]))
            clear hz HCd HCp HPp HPd hMb hlk hk0 hklo hkhi hp0 hp1 HS3 hsl3 hpart
            go_wp2_with fail
            go_still_tail 14, (by kernel_rfl)
            change wpList _ _ _ _ _ W3.drew
            go_wp2_with fail
            go_roundw
            case rel => exact ⟨_, n, cap, ⟨M, lp⟩ :: ls, g + G, L2, HSm, Hokn, hRb.2, hRb.1, HPn.out, HCn⟩
            case measure =>
              rw [HM.out]
              refine Nat.lt_of_le_of_lt (Nat.le_of_eq HSm.out.meas) ?_
              rw [if_neg hl0, if_pos HL20.out]
              omega
        · have hd2 : decide (0 < lm) = false := by simpa using hsm
          have HF := hid (show R = (⟨lm, lp⟩ :: ls ++ [⟨left, p⟩], g) by rw [HR.out, ← HC.out, close_stop (by unfold meets; simp only [hd1, hd2]; simp), if_neg hl0])
          clear hk0 hklo hkhi hp0 hp1 hsl hsm hlk
          go_wp2_with fail
          go_quiet (fail)
          have HS2 := hid (HS.out.grow (gr_drewN (gr0 wr) nq))
          generalize (wr.drewN nq) = W2 at *
          clear q0 q1 t0 t1 t2 fq0 fq1 ft1 HS
          have q0 := blk_cell HS2.out.q 0 _ rfl
          have q1 := blk_cell HS2.out.q 1 _ rfl
          have t0 := blk_cell HS2.out.t 0 _ rfl
          have t1 := blk_cell HS2.out.t 1 _ rfl
          have t2 := blk_cell HS2.out.t 2 _ rfl
          have fq0 := blk_frozen HS2.out.q 0
          have fq1 := blk_frozen HS2.out.q 1
          have ft1 := blk_frozen HS2.out.t 1
          clear l0 l1 lf0
          -- what is left becomes a lot
          have HS3 := hid ((HS2.out.grow (gr_alloc (gr0 _) (Obj.cells #[.int .i64 left, .int .i64 p] 133))).grow (gr_drew (gr0 _)))
          have hl2 := HS2.out.s.len
          have hnc := HS2.out.s.nc
          have hn16 : (n : Int) ≤ 16 := by
            have h9 := (pot_bd hpot).2.2
            rw [hl2] at h9
            omega
          have hqT := HS2.out.qT
          clear hpot
          go_wp2_with fail
          refine wp_region_held_drew (S := fun w' => w'.heap[w.heap.size]? = some (.cells #[.int .i64 day, .int .i64 left, .int .i64 p] 98 (0, 0))) (by kernel_rfl) HS2.out.t (fun hHeld => ?_)
          refine wpAnyH_take (i := 0) (v := ?_) rfl (by kernel_rfl) (by kernel_rfl) (by kernel_rfl) (fun _ _ _ h => h) (Or.inl ⟨by rfl, ?_⟩) hHeld ?_
          rotate_left
          · intro w9 hSw
            clear hSw
            go_simp
            all_goals (try with_reducible rfl)
          (try simp only [Act.put, gA, gC, gD, gE, gF])
          refine wpAnyH_take (i := 1) (v := ?_) rfl (by kernel_rfl) (by kernel_rfl) (by kernel_rfl) (fun _ _ _ h => h) (Or.inl ⟨by rfl, ?_⟩) hHeld ?_
          rotate_left
          · intro w9 hSw
            clear hSw
            go_simp
            all_goals (try with_reducible rfl)
          (try simp only [Act.put, gA, gB, gC, gD, gE, gF])
          refine wpAnyH_take (i := 2) (v := ?_) rfl (by kernel_rfl) (by kernel_rfl) (by kernel_rfl) (fun _ _ _ h => h) (Or.inl ⟨by rfl, ?_⟩) hHeld ?_
          rotate_left
          · intro w9 hSw
            clear hSw
            go_simp
            all_goals (try with_reducible rfl)
          (try simp only [Act.put, gA, gB, gC, gD, gE, gF])
          refine wpAnyH_take (i := 3) (v := ?_) rfl (by kernel_rfl) (by kernel_rfl) (by kernel_rfl) (fun _ _ _ h => h) (Or.inl ⟨by rfl, ?_⟩) hHeld ?_
          rotate_left
          · intro w9 hSw
            clear hSw
            go_simp
            all_goals (try with_reducible rfl)
          (try simp only [Act.put, gA, gB, gC, gD, gE, gF])
          refine wpAnyH_take (i := 5) (v := ?_) rfl (by kernel_rfl) (by kernel_rfl) (by kernel_rfl) (fun _ _ _ h => h) (Or.inl ⟨by rfl, ?_⟩) hHeld ?_
          rotate_left
          · intro w9 hSw
            (have t1 := blk_cell hSw 1 _ rfl; have t2 := blk_cell hSw 2 _ rfl; clear hSw)
            go_simp
            all_goals (try with_reducible rfl)
          (try simp only [Act.put, gA, gB, gC, gD, gE, gF])
          refine wpAnyH_take (i := 6) (v := ?_) rfl (by kernel_rfl) (by kernel_rfl) (by kernel_rfl) (fun _ _ _ h => h) (Or.inl ⟨by rfl, ?_⟩) hHeld ?_
          rotate_left
          · intro w9 hSw
            (have t1 := blk_cell hSw 1 _ rfl; have t2 := blk_cell hSw 2 _ rfl; clear hSw)
            go_simp
            all_goals (try with_reducible rfl)
          (try simp only [Act.put, gA, gB, gC, gD, gE, gF])
          refine wpAnyH_take (i := 7) (v := ?_) rfl (by kernel_rfl) (by kernel_rfl) (by kernel_rfl) (fun _ _ _ h => h) (Or.inl ⟨by rfl, ?_⟩) hHeld ?_
          rotate_left
          · intro w9 hSw
            (have t1 := blk_cell hSw 1 _ rfl; have t2 := blk_cell hSw 2 _ rfl; clear hSw)
            go_simp
            all_goals (try with_reducible rfl)
          (try simp only [Act.put, gA, gB, gC, gD, gE, gF])
          refine wpAnyH_take (i := 8) (v := ?_) rfl (by kernel_rfl) (by kernel_rfl) (by kernel_rfl) (fun _ _ _ h => h) (Or.inl ⟨by rfl, ?_⟩) hHeld ?_
          rotate_left
          · intro w9 hSw
            (have t1 := blk_cell hSw 1 _ rfl; have t2 := blk_cell hSw 2 _ rfl; clear hSw)
            go_simp
            all_goals (try with_reducible rfl)
          (try simp only [Act.put, gA, gB, gC, gD, gE, gF])
          refine wpAnyH_take (i := 9) (v := ?_) rfl (by kernel_rfl) (by kernel_rfl) (by kernel_rfl) (fun _ _ _ h => h) (Or.inl ⟨by rfl, ?_⟩) hHeld ?_
          rotate_left
          · intro w9 hSw
            (have t1 := blk_cell hSw 1 _ rfl; have t2 := blk_cell hSw 2 _ rfl; clear hSw)
            go_simp
            all_goals (try with_reducible rfl)
          (try simp only [Act.put, gA, gB, gC, gD, gE, gF])
          refine wpAnyH_ready (rs := [4, 10]) (by kernel_rfl) (by simp) ?_
          refine AllReadyH.cons rfl (fun K' hK' => ?_) (AllReadyH.cons rfl (fun K' hK' => ?_) AllReadyH.nil)
          · go_simp
            (try simp only [])
            refine hK'.out _ _ hHeld (fun hHeldN => ?_)
            clear hK' K' hHeld
            have hHeld := hHeldN
            clear hHeldN
            (try simp only [Act.put, gA, gB, gC, gD, gE, gF])
            refine wpAnyH_ready (rs := [10]) (by kernel_rfl) (by simp) ?_
            refine AllReadyH.cons rfl (fun K' hK' => ?_) AllReadyH.nil
            go_simp
            (try simp only [])
            refine hK'.out _ _ (blk_alloc hHeld _) (fun hHeldN => ?_)
            clear hK' K' hHeld
            have hHeld := hHeldN
            clear hHeldN
            (try simp only [Act.put, gA, gB, gC, gD, gE, gF])
            refine wpAnyH_ready (rs := [11]) (by kernel_rfl) (by simp) ?_
            refine AllReadyH.cons rfl (fun K' hK' => ?_) AllReadyH.nil
            by_cases hroom : n + 1 ≤ cap
            · obtain ⟨b, off, eab, hb1, hb2, hb3, hb4, _⟩ := HS3.out.s.mem (by omega)
              cases eab
              have hbT := HS3.out.far (by omega) b off rfl
              refine step_append_room (by rfl) _ _ 99 (by rfl) 133 i0 2 Tryz.underlying99 hi hz1 b off n cap (by rfl) ⟨W2.heap.size, 0, none⟩ 1 1 [.int .i64 left, .int .i64 p] (by rfl) (by rfl) (lot_news _ _ _ rfl _ _) (by simp [Value.oneCell']) hroom ?_ ?_
              · intro j hj
                simp only [List.length_cons, List.length_nil] at hj
                refine ⟨?_, hb3 _⟩
                have := hb4 (n * 2 + j) (by omega)
                rwa [← Nat.add_assoc] at this
              have HP := hid (HS3.out.s.push hroom ⟨left, p⟩)
              have hq4 := blk_set_other (blk_set_other HS3.out.q ⟨b, off + n * 2, none⟩ (by simp; omega) (.int .i64 left)) ⟨b, off + n * 2 + 1, none⟩ (by simp; omega) (.int .i64 p)
              have ht4 := blk_set_other (blk_set_other HS3.out.t ⟨b, off + n * 2, none⟩ hbT (.int .i64 left)) ⟨b, off + n * 2 + 1, none⟩ hbT (.int .i64 p)
              have HB4 := hid (below_set (below_set HS3.out.b (p := ⟨b, off + n * 2, none⟩) (by simp; omega) (.int .i64 left)) (p := ⟨b, off + n * 2 + 1, none⟩) (by simp; omega) (.int .i64 p))
              have HQ4 : Hid ((World.setCells (W2.alloc (Obj.cells #[.int .i64 left, .int .i64 p] 133)).drew b (off + n * 2) [.int .i64 left, .int .i64 p]).heap[qb]? = _) := hid hq4
              have HT4 : Hid ((World.setCells (W2.alloc (Obj.cells #[.int .i64 left, .int .i64 p] 133)).drew b (off + n * 2) [.int .i64 left, .int .i64 p]).heap[w.heap.size]? = _) := hid ht4
              have HB5 : Hid (Below qb w (World.setCells (W2.alloc (Obj.cells #[.int .i64 left, .int .i64 p] 133)).drew b (off + n * 2) [.int .i64 left, .int .i64 p])) := HB4
              clear hq4 ht4 HB4 HS3
              generalize (World.setCells (W2.alloc (Obj.cells #[.int .i64 left, .int .i64 p] 133)).drew b (off + n * 2) [.int .i64 left, .int .i64 p]) = W5 at *
              (try clear q0 q1 t0 t1 t2 fq0 fq1 ft1)
              (try simp only [])
              refine hK'.out _ _ HT4.out (fun hHeldN => ?_)
              clear hK' K' hHeld
              have hHeld := hHeldN
              clear hHeldN
              (try simp only [Act.put, gA, gB, gC, gD, gE, gF])
              refine wpAnyH_take (i := 12) (v := ?_) rfl (by kernel_rfl) (by kernel_rfl) (by kernel_rfl) (fun _ _ _ h => h) (Or.inl ⟨by rfl, ?_⟩) hHeld ?_
              rotate_left
              · intro w9 hSw
                clear hSw
                go_simp
                all_goals (try with_reducible rfl)
              (try simp only [Act.put, gA, gB, gC, gD, gE, gF])
              refine wpAnyH_take (i := 13) (v := ?_) rfl (by kernel_rfl) (by kernel_rfl) (by kernel_rfl) (fun _ _ _ h => h) (Or.inl ⟨by rfl, ?_⟩) hHeld ?_
              rotate_left
              · intro w9 hSw
                clear hSw
                go_simp
                all_goals (try with_reducible rfl)
              (try simp only [Act.put, gA, gB, gC, gD, gE, gF])
              have q0 := blk_cell HQ4.out 0 _ rfl
              have fq0 := blk_frozen HQ4.out 0
              refine wpAnyH_ready (rs := [14]) (by kernel_rfl) (by simp) ?_
              refine AllReadyH.cons rfl (fun K' hK' => ?_) AllReadyH.nil
              go_simp
              (try simp only [])
              refine hK'.out _ _ (blk_set_other HT4.out ⟨qb, 0, none⟩ (by simp; omega) _) (fun hHeldN => ?_)
              clear hK' K' hHeld
              have hHeld := hHeldN
              clear hHeldN
              (try simp only [Act.put, gA, gB, gC, gD, gE, gF])
              refine wpAnyH_done (by kernel_rfl) ?_ _
              go_wp2_with fail
              refine bodyPost_end (results_none rfl _ _ _) rfl ⟨rfl, some ⟨b, off, none⟩, n + 1, cap, ?_, ?_, below_set HB5.out (by simp) _⟩
              · rw [HF.out]; exact (blk_set HQ4.out 0 _).trans rfl
              · rw [HF.out]; exact HP.out.keep (gr_setCell (r := some qb) (gr_refl _ _) (.inl rfl) _) (fun _ b9 off9 e e2 => by cases e; cases e2; omega)
            · refine step_append_grows (by rfl) _ _ 99 (by rfl) 133 i0 _ 2 16 Tryz.underlying99 hi hz0 hz1 hz2 (by rfl) (by decide) _ n cap (List.flatMap lotL.cells (⟨lm, lp⟩ :: ls)) (by rfl) ?_ ?_ HS3.out.s.olds ⟨W2.heap.size, 0, none⟩ 1 1 [.int .i64 left, .int .i64 p] (by rfl) (by rfl) (lot_news _ _ _ rfl _ _) (by simp [Value.oneCell']) ?_ ?_ ?_ ?_
              · intro h; have := HS3.out.s.nil h; omega
              · rw [flat_len, hl2]; rfl
              · omega
              · unfold maxLen; omega
              · omega
              intro v' W5 hown hgrow
              have hown2 : W5.ownsRow (W2.alloc (Obj.cells #[.int .i64 left, .int .i64 p] 133)).drew.heap.size 133 2 v' (n + 1) (List.flatMap lotL.cells ((⟨lm, lp⟩ :: ls) ++ [⟨left, p⟩])) := by rw [List.flatMap_append]; exact hown
              obtain ⟨g9, cap9, rfl, hge, hQ9⟩ := Qs.of_own hown2 (by rw [List.length_append, hl2]; rfl) (by omega) (by have := (HS3.out.grow hgrow).lt; omega)
              have HS5 := hid (HS3.out.grow hgrow)
              have hlt3 := HS3.out.lt
              have HQ9 := hid (hQ9.mono (show qb + 1 ≤ _ by omega))
              clear hown hown2 hgrow hQ9 HS3
              (try clear q0 q1 t0 t1 t2 fq0 fq1 ft1)
              (try simp only [])
              refine hK'.out _ _ HS5.out.t (fun hHeldN => ?_)
              clear hK' K' hHeld
              have hHeld := hHeldN
              clear hHeldN
              (try simp only [Act.put, gA, gB, gC, gD, gE, gF])
              refine wpAnyH_take (i := 12) (v := ?_) rfl (by kernel_rfl) (by kernel_rfl) (by kernel_rfl) (fun _ _ _ h => h) (Or.inl ⟨by rfl, ?_⟩) hHeld ?_
              rotate_left
              · intro w9 hSw
                clear hSw
                go_simp
                all_goals (try with_reducible rfl)
              (try simp only [Act.put, gA, gB, gC, gD, gE, gF])
              refine wpAnyH_take (i := 13) (v := ?_) rfl (by kernel_rfl) (by kernel_rfl) (by kernel_rfl) (fun _ _ _ h => h) (Or.inl ⟨by rfl, ?_⟩) hHeld ?_
              rotate_left
              · intro w9 hSw
                clear hSw
                go_simp
                all_goals (try with_reducible rfl)
              (try simp only [Act.put, gA, gB, gC, gD, gE, gF])
              have q0 := blk_cell HS5.out.q 0 _ rfl
              have fq0 := blk_frozen HS5.out.q 0
              refine wpAnyH_ready (rs := [14]) (by kernel_rfl) (by simp) ?_
              refine AllReadyH.cons rfl (fun K' hK' => ?_) AllReadyH.nil
              go_simp
              (try simp only [])
              refine hK'.out _ _ (blk_set_other HS5.out.t ⟨qb, 0, none⟩ (by simp; omega) _) (fun hHeldN => ?_)
              clear hK' K' hHeld
              have hHeld := hHeldN
              clear hHeldN
              (try simp only [Act.put, gA, gB, gC, gD, gE, gF])
              refine wpAnyH_done (by kernel_rfl) ?_ _
              go_wp2_with fail
              refine bodyPost_end (results_none rfl _ _ _) rfl ⟨rfl, some ⟨g9, 0, none⟩, n + 1, cap9, ?_, ?_, below_set HS5.out.b (by simp) _⟩
              · rw [HF.out]; exact (blk_set HS5.out.q 0 _).trans rfl
              · rw [HF.out]; exact HQ9.out.keep (gr_setCell (r := some qb) (gr_refl _ _) (.inl rfl) _) (fun _ b9 off9 e e2 => by cases e; cases e2; omega)
          · go_simp
            (try simp only [])
            refine hK'.out _ _ (blk_alloc hHeld _) (fun hHeldN => ?_)
            clear hK' K' hHeld
            have hHeld := hHeldN
            clear hHeldN
            (try simp only [Act.put, gA, gB, gC, gD, gE, gF])
            have q0 := blk_cell HS3.out.q 0 _ rfl
            refine wpAnyH_ready (rs := [4]) (by kernel_rfl) (by simp) ?_
            refine AllReadyH.cons rfl (fun K' hK' => ?_) AllReadyH.nil
            go_simp
            (try simp only [])
            refine hK'.out _ _ hHeld (fun hHeldN => ?_)
            clear hK' K' hHeld
            have hHeld := hHeldN
            clear hHeldN
            (try simp only [Act.put, gA, gB, gC, gD, gE, gF])
            refine wpAnyH_ready (rs := [11]) (by kernel_rfl) (by simp) ?_
            refine AllReadyH.cons rfl (fun K' hK' => ?_) AllReadyH.nil
            by_cases hroom : n + 1 ≤ cap
            · obtain ⟨b, off, eab, hb1, hb2, hb3, hb4, _⟩ := HS3.out.s.mem (by omega)
              cases eab
              have hbT := HS3.out.far (by omega) b off rfl
              refine step_append_room (by rfl) _ _ 99 (by rfl) 133 i0 2 Tryz.underlying99 hi hz1 b off n cap (by rfl) ⟨W2.heap.size, 0, none⟩ 1 1 [.int .i64 left, .int .i64 p] (by rfl) (by rfl) (lot_news _ _ _ rfl _ _) (by simp [Value.oneCell']) hroom ?_ ?_
              · intro j hj
                simp only [List.length_cons, List.length_nil] at hj
                refine ⟨?_, hb3 _⟩
                have := hb4 (n * 2 + j) (by omega)
                rwa [← Nat.add_assoc] at this
              have HP := hid (HS3.out.s.push hroom ⟨left, p⟩)
              have hq4 := blk_set_other (blk_set_other HS3.out.q ⟨b, off + n * 2, none⟩ (by simp; omega) (.int .i64 left)) ⟨b, off + n * 2 + 1, none⟩ (by simp; omega) (.int .i64 p)
              have ht4 := blk_set_other (blk_set_other HS3.out.t ⟨b, off + n * 2, none⟩ hbT (.int .i64 left)) ⟨b, off + n * 2 + 1, none⟩ hbT (.int .i64 p)
              have HB4 := hid (below_set (below_set HS3.out.b (p := ⟨b, off + n * 2, none⟩) (by simp; omega) (.int .i64 left)) (p := ⟨b, off + n * 2 + 1, none⟩) (by simp; omega) (.int .i64 p))
              have HQ4 : Hid ((World.setCells (W2.alloc (Obj.cells #[.int .i64 left, .int .i64 p] 133)).drew b (off + n * 2) [.int .i64 left, .int .i64 p]).heap[qb]? = _) := hid hq4
              have HT4 : Hid ((World.setCells (W2.alloc (Obj.cells #[.int .i64 left, .int .i64 p] 133)).drew b (off + n * 2) [.int .i64 left, .int .i64 p]).heap[w.heap.size]? = _) := hid ht4
              have HB5 : Hid (Below qb w (World.setCells (W2.alloc (Obj.cells #[.int .i64 left, .int .i64 p] 133)).drew b (off + n * 2) [.int .i64 left, .int .i64 p])) := HB4
              clear hq4 ht4 HB4 HS3
              generalize (World.setCells (W2.alloc (Obj.cells #[.int .i64 left, .int .i64 p] 133)).drew b (off + n * 2) [.int .i64 left, .int .i64 p]) = W5 at *
              (try clear q0 q1 t0 t1 t2 fq0 fq1 ft1)
              (try simp only [])
              refine hK'.out _ _ HT4.out (fun hHeldN => ?_)
              clear hK' K' hHeld
              have hHeld := hHeldN
              clear hHeldN
              (try simp only [Act.put, gA, gB, gC, gD, gE, gF])
              refine wpAnyH_take (i := 12) (v := ?_) rfl (by kernel_rfl) (by kernel_rfl) (by kernel_rfl) (fun _ _ _ h => h) (Or.inl ⟨by rfl, ?_⟩) hHeld ?_
              rotate_left
              · intro w9 hSw
                clear hSw
                go_simp
                all_goals (try with_reducible rfl)
              (try simp only [Act.put, gA, gB, gC, gD, gE, gF])
              refine wpAnyH_take (i := 13) (v := ?_) rfl (by kernel_rfl) (by kernel_rfl) (by kernel_rfl) (fun _ _ _ h => h) (Or.inl ⟨by rfl, ?_⟩) hHeld ?_
              rotate_left
              · intro w9 hSw
                clear hSw
                go_simp
                all_goals (try with_reducible rfl)
              (try simp only [Act.put, gA, gB, gC, gD, gE, gF])
              have q0 := blk_cell HQ4.out 0 _ rfl
              have fq0 := blk_frozen HQ4.out 0
              refine wpAnyH_ready (rs := [14]) (by kernel_rfl) (by simp) ?_
              refine AllReadyH.cons rfl (fun K' hK' => ?_) AllReadyH.nil
              go_simp
              (try simp only [])
              refine hK'.out _ _ (blk_set_other HT4.out ⟨qb, 0, none⟩ (by simp; omega) _) (fun hHeldN => ?_)
              clear hK' K' hHeld
              have hHeld := hHeldN
              clear hHeldN
              (try simp only [Act.put, gA, gB, gC, gD, gE, gF])
              refine wpAnyH_done (by kernel_rfl) ?_ _
              go_wp2_with fail
              refine bodyPost_end (results_none rfl _ _ _) rfl ⟨rfl, some ⟨b, off, none⟩, n + 1, cap, ?_, ?_, below_set HB5.out (by simp) _⟩
              · rw [HF.out]; exact (blk_set HQ4.out 0 _).trans rfl
              · rw [HF.out]; exact HP.out.keep (gr_setCell (r := some qb) (gr_refl _ _) (.inl rfl) _) (fun _ b9 off9 e e2 => by cases e; cases e2; omega)
            · refine step_append_grows (by rfl) _ _ 99 (by rfl) 133 i0 _ 2 16 Tryz.underlying99 hi hz0 hz1 hz2 (by rfl) (by decide) _ n cap (List.flatMap lotL.cells (⟨lm, lp⟩ :: ls)) (by rfl) ?_ ?_ HS3.out.s.olds ⟨W2.heap.size, 0, none⟩ 1 1 [.int .i64 left, .int .i64 p] (by rfl) (by rfl) (lot_news _ _ _ rfl _ _) (by simp [Value.oneCell']) ?_ ?_ ?_ ?_
              · intro h; have := HS3.out.s.nil h; omega
              · rw [flat_len, hl2]; rfl
              · omega
              · unfold maxLen; omega
              · omega
              intro v' W5 hown hgrow
              have hown2 : W5.ownsRow (W2.alloc (Obj.cells #[.int .i64 left, .int .i64 p] 133)).drew.heap.size 133 2 v' (n + 1) (List.flatMap lotL.cells ((⟨lm, lp⟩ :: ls) ++ [⟨left, p⟩])) := by rw [List.flatMap_append]; exact hown
              obtain ⟨g9, cap9, rfl, hge, hQ9⟩ := Qs.of_own hown2 (by rw [List.length_append, hl2]; rfl) (by omega) (by have := (HS3.out.grow hgrow).lt; omega)
              have HS5 := hid (HS3.out.grow hgrow)
              have hlt3 := HS3.out.lt
              have HQ9 := hid (hQ9.mono (show qb + 1 ≤ _ by omega))
              clear hown hown2 hgrow hQ9 HS3
              (try clear q0 q1 t0 t1 t2 fq0 fq1 ft1)
              (try simp only [])
              refine hK'.out _ _ HS5.out.t (fun hHeldN => ?_)
              clear hK' K' hHeld
              have hHeld := hHeldN
              clear hHeldN
              (try simp only [Act.put, gA, gB, gC, gD, gE, gF])
              refine wpAnyH_take (i := 12) (v := ?_) rfl (by kernel_rfl) (by kernel_rfl) (by kernel_rfl) (fun _ _ _ h => h) (Or.inl ⟨by rfl, ?_⟩) hHeld ?_
              rotate_left
              · intro w9 hSw
                clear hSw
                go_simp
                all_goals (try with_reducible rfl)
              (try simp only [Act.put, gA, gB, gC, gD, gE, gF])
              refine wpAnyH_take (i := 13) (v := ?_) rfl (by kernel_rfl) (by kernel_rfl) (by kernel_rfl) (fun _ _ _ h => h) (Or.inl ⟨by rfl, ?_⟩) hHeld ?_
              rotate_left
              · intro w9 hSw
                clear hSw
                go_simp
                all_goals (try with_reducible rfl)
              (try simp only [Act.put, gA, gB, gC, gD, gE, gF])
              have q0 := blk_cell HS5.out.q 0 _ rfl
              have fq0 := blk_frozen HS5.out.q 0
              refine wpAnyH_ready (rs := [14]) (by kernel_rfl) (by simp) ?_
              refine AllReadyH.cons rfl (fun K' hK' => ?_) AllReadyH.nil
              go_simp
              (try simp only [])
              refine hK'.out _ _ (blk_set_other HS5.out.t ⟨qb, 0, none⟩ (by simp; omega) _) (fun hHeldN => ?_)
              clear hK' K' hHeld
              have hHeld := hHeldN
              clear hHeldN
              (try simp only [Act.put, gA, gB, gC, gD, gE, gF])
              refine wpAnyH_done (by kernel_rfl) ?_ _
              go_wp2_with fail
              refine bodyPost_end (results_none rfl _ _ _) rfl ⟨rfl, some ⟨g9, 0, none⟩, n + 1, cap9, ?_, ?_, below_set HS5.out.b (by simp) _⟩
              · rw [HF.out]; exact (blk_set HS5.out.q 0 _).trans rfl
              · rw [HF.out]; exact HQ9.out.keep (gr_setCell (r := some qb) (gr_refl _ _) (.inl rfl) _) (fun _ b9 off9 e e2 => by cases e; cases e2; omega)

end Go.Proofs.YtielicmjdhmcjaaGreatDoor

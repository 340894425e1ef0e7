/- The program's iterator over the ends of periods: what it yields, for every body of a round. -/
import Derived.RangeFuncNested
import Derived.RangeFuncBound
import Derived.RangeFuncCalls
import Derived.RangeFuncLeaves
import Derived.RangeFuncBox
import Derived.Shelf.Abstract
import Derived.Shelf.RegionOpen
import Derived.WalkKit
import Derived.OwnWalkIn
import Derived.TacticsInMore
import Derived.LoopNIn
import Derived.LoopIn
import Derived.Test.YtpomlbloeejbjaaDoorRows
import Derived.Test.YtpomlbloeejbjaaDoorBase
import Derived.Test.YtpomlbloeejbjaaDoorSched
import Derived.Test.YtpomlbloeejbjaaDoorMonthWalk
namespace Go.Proofs.YtpomlbloeejbjaaDoor
open Go.RowKit Go.Shelf
attribute [local go_sem] Oper.semAt_some

/-- The blocks of a list are cells that have not changed. -/
def KpX (bl : List Nat) (A B : World) : Prop := A.heap.size ≤ B.heap.size ∧ ∀ b ∈ bl, ∀ cs t f, A.heap[b]? = some (.cells cs t f) → B.heap[b]? = some (.cells cs t f)
theorem KpX.refl (bl : List Nat) (A : World) : KpX bl A A := ⟨Nat.le_refl _, fun _ _ _ _ _ h => h⟩
theorem KpX.trans {bl : List Nat} {A B C : World} (h : KpX bl A B) (k : KpX bl B C) : KpX bl A C := ⟨Nat.le_trans h.1 k.1, fun b hb cs t f hc => k.2 b hb cs t f (h.2 b hb cs t f hc)⟩
theorem KpX.of_gr {bl : List Nat} {A B : World} {r : Option Nat} (h : A.grownBy B r) (hr : ∀ b, r = some b → b ∉ bl) : KpX bl A B :=
  ⟨h.size, fun _ hb _ _ _ hc => blk_keep hc h (fun k e hk => hr k e (hk ▸ hb))⟩
theorem KpX.put {bl : List Nat} (W : World) (l : Nat) (o o' : Obj) (h : W.heap[l]? = some o) (hc : o.isCells = false) : KpX bl W (W.putObj l o') := by
  refine ⟨by simp [World.putObj], fun b _ cs t f hb => ?_⟩
  by_cases e : l = b
  · subst e
    rw [h] at hb; cases hb; cases hc
  · simp only [World.putObj, Array.getElem?_setIfInBounds]
    rw [if_neg e]; exact hb

theorem Months.blk {w : World} (h : Months w) : ∃ cs t f, w.heap[0]? = some (.cells cs t f) ∧ ∀ (k : Nat) (v : Int), months[k]? = some v → cs[k]? = some (.int .i64 v) := by
  have h0 := h.cell 0 31 rfl
  unfold World.cell? at h0
  simp only at h0
  cases hh : w.heap[0]? with
  | none => rw [hh] at h0; simp at h0
  | some o =>
    rw [hh] at h0
    cases o with
    | cells cs t f =>
      refine ⟨cs, t, f, rfl, fun k v hk => ?_⟩
      have hc := h.cell k v hk
      unfold World.cell? at hc
      simp only [hh] at hc
      exact hc
    | _ => simp at h0
theorem Months.of_kp {bl : List Nat} {A B : World} (h : Months A) (k : KpX bl A B) (h0 : 0 ∈ bl) : Months B := by
  obtain ⟨cs, t, f, hh, hc⟩ := h.blk
  exact ⟨fun i v hi => blk_cell (k.2 0 h0 cs t f hh) i _ (hc i v hi)⟩

/-- The day at which the iterator stands in round k. -/
def atX (e m : Int) (k : Nat) : Int := if k = 0 then e else if (k : Int) * m ≤ 600 then addM e (-(k * m)) else -1
def pairX (e m : Int) (k : Nat) : Int × Int := (atX e m k, atX e m (k + 1))
def uptoX (e m : Int) (k : Nat) : List (Int × Int) := (List.range k).map (pairX e m)
theorem uptoX_succ (e m : Int) (k : Nat) : uptoX e m (k + 1) = uptoX e m k ++ [pairX e m k] := by simp [uptoX, List.range_succ]
theorem uptoX_len (e m : Int) (k : Nat) : (uptoX e m k).length = k := by simp [uptoX]

theorem atX_lt (e m : Int) (k : Nat) (h0 : 0 ≤ e) (h1 : e ≤ 36524) (hm : 1 ≤ m) (hm12 : m ≤ 12) (hk : 0 ≤ atX e m k) : atX e m (k + 1) < atX e m k := by
  by_cases hb : ((k + 1 : Nat) : Int) * m ≤ 600
  · have e2 : atX e m (k + 1) = backA e m (k + 1) := by unfold atX backA; rw [if_neg (by omega), if_pos hb]
    have hkm : (k : Int) * m ≤ 600 := by
      have : ((k + 1 : Nat) : Int) * m = k * m + m := by push_cast; rw [Int.add_mul]; omega
      omega
    have e1 : atX e m k = backA e m k := by
      by_cases hk0 : k = 0
      · subst hk0; rw [back_zero e m h0 h1]; unfold atX; rw [if_pos rfl]
      · unfold atX backA; rw [if_neg hk0, if_pos hkm]
    rw [e1] at hk ⊢
    rw [e2]
    exact back_lt e m (k + 1) k h0 h1 hm (by omega) hk
  · have e2 : atX e m (k + 1) = -1 := by unfold atX; rw [if_neg (by omega), if_neg hb]
    omega

set_option maxRecDepth 100000 in
set_option maxHeartbeats 2000000 in
theorem ends1_in (n : Nat) (hn : 3 ≤ n) (l be bs bm N : Nat) (s e m : Int) (bl : List Nat) (hbl : be ∈ bl ∧ bs ∈ bl ∧ bm ∈ bl ∧ 0 ∈ bl) (h0s : 0 ≤ s) (h0e : 0 ≤ e) (h1e : e ≤ 36524) (hm1 : 1 ≤ m) (hm12 : m ≤ 12) (hN : 36526 ≤ N) (J Jx : List (Int × Int) → World → Prop)
    (hJa : ∀ p A B, J p A → A.grownBy B none → J p B)
    (hY : ∀ pre x W, J pre W → pre.length < N → YieldAt Fence.wide (n - 1) Tryd.prog l #[.int .i64 x.1, .int .i64 x.2] W fun e W' =>
      (e = .returned (.bool true) ∧ J (pre ++ [x]) W' ∧ KpX bl W W') ∨ (e = .returned (.bool false) ∧ Jx (pre ++ [x]) W'))
    (W : World) (hbe : W.heap[be]? = some (.cells #[.int .i64 e] 3 (0, 0))) (hbs : W.heap[bs]? = some (.cells #[.int .i64 s] 3 (0, 0))) (hbm : W.heap[bm]? = some (.cells #[.int .i64 m] 3 (0, 0))) (hmo : Months W) (hJ0 : J [] W) :
    CallsIn Fence.wide n Tryd.prog 93 #[.func (.yield l) #[] #[], .pointer (some ⟨be, 0, none⟩), .pointer (some ⟨bs, 0, none⟩), .pointer (some ⟨bm, 0, none⟩)] W fun e' W' => (∃ v, e' = .returned v) ∧
      ((∃ ys, (∃ q, ys = uptoX e m q ∧ (∀ j, j < q → s < atX e m j) ∧ atX e m q ≤ s) ∧ J ys W') ∨ (∃ pre, (∃ q, pre = uptoX e m (q + 1) ∧ (∀ j, j < q + 1 → s < atX e m j)) ∧ Jx pre W')) := by
  have Hbe := hid hbe; have Hbs := hid hbs; have Hbm := hid hbm; have Hmo := hid hmo
  clear hbe hbs hbm hmo
  refine callsIn_of_wp Tryd.func93 rfl trivial ?_ rfl
  simp only [Tryd.ntmps93, List.size_toArray, List.length_cons, List.length_nil, Nat.reduceAdd, Nat.reduceSub, Array.replicate_succ, Array.replicate_zero, List.push_toArray, List.append_toArray, List.nil_append, List.cons_append]
  have c0 := blk_cell Hbe.out 0 _ rfl
  gi_wp2
  clear c0
  gi_loopw [5, 6] (fun a i wr => ∃ k : Nat, i = .int .i64 ((k : Int) + 1) ∧ a = .int .i64 (atX e m k) ∧ atX e m k + k ≤ e ∧ -1 ≤ atX e m k ∧ Hid (∀ j, j < k → s < atX e m j) ∧ J (uptoX e m k) wr ∧ KpX bl W wr) (fun a _ _ => (intOf a + 1).toNat)
  case atStart =>
    exact ⟨0, by simp, by simp [atX], by simp [atX], by simp [atX]; omega, hid (fun j hj => by omega), by simpa [uptoX] using hJ0, KpX.refl _ _⟩
  case round =>
    obtain ⟨k, rfl, rfl, hke, hk1, Hall, hJs, hkp⟩ := hrel
    have ce := blk_cell (hkp.2 be hbl.1 _ _ _ Hbe.out) 0 _ rfl
    have cs := blk_cell (hkp.2 bs hbl.2.1 _ _ _ Hbs.out) 0 _ rfl
    have cm := blk_cell (hkp.2 bm hbl.2.2.1 _ _ _ Hbm.out) 0 _ rfl
    have Hmr := hid (Hmo.out.of_kp hkp hbl.2.2.2)
    have HJ := hid hJs; have Hkp := hid hkp
    clear hJs hkp
    by_cases hlt : s < atX e m k
    · have hdec := atX_lt e m k h0e h1e hm1 hm12 (by omega)
      have Hall2 : Hid (∀ j, j < k + 1 → s < atX e m j) := hid (fun j hj => by
        by_cases hjk : j = k
        · subst hjk; exact hlt
        · exact Hall.out j (by omega))
      have hp : ((k + 1 : Nat) : Int) * m = ((k : Int) + 1) * m := by push_cast; rfl
      have hp0 : 0 ≤ ((k : Int) + 1) * m := Int.mul_nonneg (by omega) (by omega)
      have hp1 : ((k : Int) + 1) * m ≤ 438300 := by
        have h9 : ((k : Int) + 1) * m ≤ ((k : Int) + 1) * 12 := Int.mul_le_mul_of_nonneg_left hm12 (by omega)
        omega
      have hbd2 : -1 ≤ atX e m (k + 1) := by
        unfold atX; split
        · omega
        · split
          · exact (addM_bd e _ h0e h1e).1
          · omega
      have hY1 : ∀ W1, J (uptoX e m k) W1 → YieldAt Fence.wide (n - 1) Tryd.prog l #[.int .i64 (atX e m k), .int .i64 (atX e m (k + 1))] W1 fun e' W' =>
          (e' = .returned (.bool true) ∧ J (uptoX e m k ++ [pairX e m k]) W' ∧ KpX bl W1 W') ∨ (e' = .returned (.bool false) ∧ Jx (uptoX e m k ++ [pairX e m k]) W') := fun W1 h => hY (uptoX e m k) (pairX e m k) W1 h (by rw [uptoX_len]; omega)
      have HY := hid hY1
      clear hY1
      by_cases hc : ((k : Int) + 1) * m ≤ 600
      · have Hat0 : Hid (atX e m (k + 1) = addMF e (-(((k : Int) + 1) * m))) := hid (by
          have w1 : withinB e 0 36524 = true := (within_iff' _ _ _).2 ⟨h0e, h1e⟩
          have w2 : withinB (-(((k : Int) + 1) * m)) (-600) 600 = true := (within_iff' _ _ _).2 (by omega)
          unfold atX addMF; rw [if_neg (by omega), hp, if_pos hc, w1, w2]; rfl)
        have Hn : Hid (-((k : Int) + 1) * m = -(((k : Int) + 1) * m)) := hid (Int.neg_mul _ _)
        generalize hA1 : atX e m (k + 1) = a1 at *
        generalize hA0 : atX e m k = a0 at *
        have Hat := hid hA1; have HA0 := hid hA0
        clear hA1 hA0 hp
        have hq0 : -438300 ≤ -((k : Int) + 1) * m := by rw [Hn.out]; omega
        have hq1 : -((k : Int) + 1) * m ≤ 0 := by rw [Hn.out]; omega
        gi_wp2
        refine ⟨trivial, fun _ => by omega, (callsIn_wide.2 (AddMonths_any e _ wr Hmr.out)).mono ?_⟩
        rintro e' W2 ⟨rfl, hg2⟩
        rw [Hn.out, ← Hat0.out]
        obtain ⟨fn, tmps, assign, body, hy, hR⟩ := HY.out W2 (hJa _ _ _ HJ.out hg2)
        have HkG := hid (Hkp.out.trans (KpX.of_gr hg2 (fun _ h => by cases h)))
        clear hg2 ce cs cm hq0 hq1
        gi_wp2
        refine ⟨fun _ => by omega, hR.mono ?_⟩
        rintro e' W3 (⟨rfl, hJ3, hk3⟩ | ⟨rfl, hJx3⟩)
        · have Hk4 := hid (HkG.out.trans hk3)
          have HJ4 := hid hJ3
          clear hJ3 hk3
          gi_wp2
          go_roundw
          case rel => exact ⟨k + 1, by push_cast; rfl, by rw [Hat.out], by rw [Hat.out]; push_cast; omega, by rw [Hat.out]; omega, Hall2, by rw [uptoX_succ]; exact HJ4.out, Hk4.out⟩
          case measure => simp [intOf]; omega
        · gi_wp2
          refine bodyPost_ret (results_none rfl _ _ _) rfl ?_
          exact ⟨⟨_, rfl⟩, .inr ⟨_, ⟨k, (uptoX_succ _ _ _).symm, Hall2.out⟩, hJx3⟩⟩
      · have Hat0 : Hid (atX e m (k + 1) = -1) := hid (by unfold atX; rw [if_neg (by omega), hp, if_neg hc])
        rw [Hat0.out] at HY
        generalize hA0 : atX e m k = a0 at *
        have HA0 := hid hA0
        have Hat := Hat0
        clear hA0 hp
        obtain ⟨fn, tmps, assign, body, hy, hR⟩ := HY.out wr HJ.out
        have HkG := Hkp
        have hdec2 : (-1 : Int) < a0 := by omega
        gi_wp2
        refine ⟨fun _ => by omega, hR.mono ?_⟩
        rintro e' W3 (⟨rfl, hJ3, hk3⟩ | ⟨rfl, hJx3⟩)
        · have Hk4 := hid (HkG.out.trans hk3)
          have HJ4 := hid hJ3
          clear hJ3 hk3
          gi_wp2
          go_roundw
          case rel => exact ⟨k + 1, by push_cast; rfl, by rw [Hat.out], by rw [Hat.out]; push_cast; omega, by rw [Hat.out]; omega, Hall2, by rw [uptoX_succ]; exact HJ4.out, Hk4.out⟩
          case measure => simp [intOf]; omega
        · gi_wp2
          refine bodyPost_ret (results_none rfl _ _ _) rfl ?_
          exact ⟨⟨_, rfl⟩, .inr ⟨_, ⟨k, (uptoX_succ _ _ _).symm, Hall2.out⟩, hJx3⟩⟩
    · gi_wp2
      go_end0
      exact ⟨⟨_, rfl⟩, .inl ⟨_, ⟨k, rfl, Hall.out, by omega⟩, HJ.out⟩⟩

end Go.Proofs.YtpomlbloeejbjaaDoor

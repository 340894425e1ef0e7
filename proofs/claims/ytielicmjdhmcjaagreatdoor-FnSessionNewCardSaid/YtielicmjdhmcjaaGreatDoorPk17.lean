/- Packed: Ends, SchedWalk. -/
import Derived.RangeFuncNested
import Derived.RangeFuncBound
import Derived.RangeFuncCalls
import Derived.RangeFuncLeaves
import Derived.RangeFuncBox
import Derived.Shelf.Abstract
import Derived.Shelf.RegionOpen
import Derived.OwnWalkIn
import Derived.TacticsInMore
import Derived.LoopNIn
import Derived.LoopIn
import Derived.Test.YtielicmjdhmcjaaGreatDoorRows
import Derived.Test.YtielicmjdhmcjaaGreatDoorPk14
import Derived.Test.YtielicmjdhmcjaaGreatDoorPk15
/- The program's iterator over the ends of periods: what it yields, for every body of a round. -/
namespace Go.Proofs.YtielicmjdhmcjaaGreatDoor
open Go.RowKit Go.Shelf
attribute [local go_sem] Oper.semAt_some

def KpX (bl : List Nat) (A B : World) : Prop := A.heap.size ≤ B.heap.size ∧ ∀ b ∈ bl, ∀ cs t f, A.heap[b]? = some (.cells cs t f) → B.heap[b]? = some (.cells cs t f)
theorem KpX.refl (bl : List Nat) (A : World) : KpX bl A A := ⟨Nat.le_refl _, fun _ _ _ _ _ h => h⟩
theorem KpX.trans {bl : List Nat} {A B C : World} (h : KpX bl A B) (k : KpX bl B C) : KpX bl A C := ⟨Nat.le_trans h.1 k.1, fun b hb cs t f hc => k.2 b hb cs t f (h.2 b hb cs t f hc)⟩
theorem KpX.of_gr {bl : List Nat} {A B : World} {r : Option Nat} (h : A.grownBy B r) (hr : ∀ b, r = some b → b ∉ bl) : KpX bl A B :=
  ⟨h.size, fun _ hb _ _ _ hc => blk_keep hc h (fun k e hk => hr k e (hk ▸ hb))⟩
theorem KpX.put {bl : List Nat} (W : World) (l : Nat) (o o' : Obj) (h : W.heap[l]? = some o) (hc : o.isCells = false) : KpX bl W (W.putObj l o') := by
  refine ⟨by simp [World.putObj], fun b _ cs t f hb => ?_⟩
  by_cases e : l = b
  · subst e
    rw [h] at hb; cases hb; cases hc
  · simp only [World.putObj, Array.getElem?_setIfInBounds]
    rw [if_neg e]; exact hb

theorem Months.blk {w : World} (h : Months w) : ∃ cs t f, w.heap[1]? = some (.cells cs t f) ∧ ∀ (k : Nat) (v : Int), months[k]? = some v → cs[k]? = some (.int .i64 v) := by
  have h0 := h.cell 0 31 rfl
  unfold World.cell? at h0
  simp only at h0
  cases hh : w.heap[1]? with
  | none => rw [hh] at h0; simp at h0
  | some o =>
    rw [hh] at h0
    cases o with
    | cells cs t f =>
      refine ⟨cs, t, f, rfl, fun k v hk => ?_⟩
      have hc := h.cell k v hk
      unfold World.cell? at hc
      simp only [hh] at hc
      exact hc
    | _ => simp at h0
theorem Months.of_kp {bl : List Nat} {A B : World} (h : Months A) (k : KpX bl A B) (h0 : 1 ∈ bl) : Months B := by
  obtain ⟨cs, t, f, hh, hc⟩ := h.blk
  exact ⟨fun i v hi => blk_cell (k.2 1 h0 cs t f hh) i _ (hc i v hi)⟩

def atX (e m : Int) (k : Nat) : Int := if k = 0 then e else if (k : Int) * m ≤ 600 then addM e (-(k * m)) else -1
def pairX (e m : Int) (k : Nat) : Int × Int := (atX e m k, atX e m (k + 1))
def uptoX (e m : Int) (k : Nat) : List (Int × Int) := (List.range k).map (pairX e m)
theorem uptoX_succ (e m : Int) (k : Nat) : uptoX e m (k + 1) = uptoX e m k ++ [pairX e m k] := by simp [uptoX, List.range_succ]
theorem uptoX_len (e m : Int) (k : Nat) : (uptoX e m k).length = k := by simp [uptoX]

theorem atX_lt (e m : Int) (k : Nat) (h0 : 0 ≤ e) (h1 : e ≤ 36524) (hm : 1 ≤ m) (hm12 : m ≤ 12) (hk : 0 ≤ atX e m k) : atX e m (k + 1) < atX e m k := by
  by_cases hb : ((k + 1 : Nat) : Int) * m ≤ 600
  · have e2 : atX e m (k + 1) = backA e m (k + 1) := by unfold atX backA; rw [if_neg (by omega), if_pos hb]
    have hkm : (k : Int) * m ≤ 600 := by
      have : ((k + 1 : Nat) : Int) * m = k * m + m := by push_cast; rw [Int.add_mul]; omega
      omega
    have e1 : atX e m k = backA e m k := by
      by_cases hk0 : k = 0
      · subst hk0; rw [back_zero e m h0 h1]; unfold atX; rw [if_pos rfl]
      · unfold atX backA; rw [if_neg hk0, if_pos hkm]
    rw [e1] at hk ⊢
    rw [e2]
    exact back_lt e m (k + 1) k h0 h1 hm (by omega) hk
  · have e2 : atX e m (k + 1) = -1 := by unfold atX; rw [if_neg (by omega), if_neg hb]
    omega

set_option maxRecDepth 100000 in
set_option maxHeartbeats 2000000 in
theorem ends1_in (n : Nat) (hn : 3 ≤ n) (l be bs bm N : Nat) (s e m : Int) (bl : List Nat) (hbl : be ∈ bl ∧ bs ∈ bl ∧ bm ∈ bl ∧ 1 ∈ bl) (h0s : 0 ≤ s) (h0e : 0 ≤ e) (h1e : e ≤ 36524) (hm1 : 1 ≤ m) (hm12 : m ≤ 12) (hN : 36526 ≤ N) (J Jx : List (Int × Int) → World → Prop)
    (hJa : ∀ p A B, J p A → A.grownBy B none → J p B)
    (hY : ∀ pre x W, J pre W → pre.length < N → YieldAt Fence.wide (n - 1) Tryz.prog l #[.int .i64 x.1, .int .i64 x.2] W fun e W' =>
      (e = .returned (.bool true) ∧ J (pre ++ [x]) W' ∧ KpX bl W W') ∨ (e = .returned (.bool false) ∧ Jx (pre ++ [x]) W'))
    (W : World) (hbe : W.heap[be]? = some (.cells #[.int .i64 e] 3 (0, 0))) (hbs : W.heap[bs]? = some (.cells #[.int .i64 s] 3 (0, 0))) (hbm : W.heap[bm]? = some (.cells #[.int .i64 m] 3 (0, 0))) (hmo : Months W) (hJ0 : J [] W) :
    CallsIn Fence.wide n Tryz.prog 179 #[.func (.yield l) #[] #[], .pointer (some ⟨be, 0, none⟩), .pointer (some ⟨bs, 0, none⟩), .pointer (some ⟨bm, 0, none⟩)] W fun e' W' => (∃ v, e' = .returned v) ∧
      ((∃ ys, (∃ q, ys = uptoX e m q ∧ (∀ j, j < q → s < atX e m j) ∧ atX e m q ≤ s) ∧ J ys W') ∨ (∃ pre, (∃ q, pre = uptoX e m (q + 1) ∧ (∀ j, j < q + 1 → s < atX e m j)) ∧ Jx pre W')) := by
  have Hbe := hid hbe; have Hbs := hid hbs; have Hbm := hid hbm; have Hmo := hid hmo
  clear hbe hbs hbm hmo
  refine callsIn_of_wp Tryz.func179 rfl trivial ?_ rfl
  simp only [Tryz.ntmps179, List.size_toArray, List.length_cons, List.length_nil, Nat.reduceAdd, Nat.reduceSub, Array.replicate_succ, Array.replicate_zero, List.push_toArray, List.append_toArray, List.nil_append, List.cons_append]
  have c0 := blk_cell Hbe.out 0 _ rfl
  gi_wp2
  clear c0
  gi_loopw [5, 6] (fun a i wr => ∃ k : Nat, i = .int .i64 ((k : Int) + 1) ∧ a = .int .i64 (atX e m k) ∧ atX e m k + k ≤ e ∧ -1 ≤ atX e m k ∧ Hid (∀ j, j < k → s < atX e m j) ∧ J (uptoX e m k) wr ∧ KpX bl W wr) (fun a _ _ => (intOf a + 1).toNat)
  case atStart =>
    exact ⟨0, by simp, by simp [atX], by simp [atX], by simp [atX]; omega, hid (fun j hj => by omega), by simpa [uptoX] using hJ0, KpX.refl _ _⟩
  case round =>
    obtain ⟨k, rfl, rfl, hke, hk1, Hall, hJs, hkp⟩ := hrel
    have ce := blk_cell (hkp.2 be hbl.1 _ _ _ Hbe.out) 0 _ rfl
    have cs := blk_cell (hkp.2 bs hbl.2.1 _ _ _ Hbs.out) 0 _ rfl
    have cm := blk_cell (hkp.2 bm hbl.2.2.1 _ _ _ Hbm.out) 0 _ rfl
    have Hmr := hid (Hmo.out.of_kp hkp hbl.2.2.2)
    have HJ := hid hJs; have Hkp := hid hkp
    clear hJs hkp
    by_cases hlt : s < atX e m k
    · have hdec := atX_lt e m k h0e h1e hm1 hm12 (by omega)
      have Hall2 : Hid (∀ j, j < k + 1 → s < atX e m j) := hid (fun j hj => by
        by_cases hjk : j = k
        · subst hjk; exact hlt
        · exact Hall.out j (by omega))
      have hp : ((k + 1 : Nat) : Int) * m = ((k : Int) + 1) * m := by push_cast; rfl
      have hp0 : 0 ≤ ((k : Int) + 1) * m := Int.mul_nonneg (by omega) (by omega)
      have hp1 : ((k : Int) + 1) * m ≤ 438300 := by
        have h9 : ((k : Int) + 1) * m ≤ ((k : Int) + 1) * 12 := Int.mul_le_mul_of_nonneg_left hm12 (by omega)
        omega
      have hbd2 : -1 ≤ atX e m (k + 1) := by
        unfold atX; split
        · omega
        · split
          · exact (addM_bd e _ h0e h1e).1
          · omega
      have hY1 : ∀ W1, J (uptoX e m k) W1 → YieldAt Fence.wide (n - 1) Tryz.prog l #[.int .i64 (atX e m k), .int .i64 (atX e m (k + 1))] W1 fun e' W' =>
          (e' = .returned (.bool true) ∧ J (uptoX e m k ++ [pairX e m k]) W' ∧ KpX bl W1 W') ∨ (e' = .returned (.bool false) ∧ Jx (uptoX e m k ++ [pairX e m k]) W') := fun W1 h => hY (uptoX e m k) (pairX e m k) W1 h (by rw [uptoX_len]; omega)
      have HY := hid hY1
      clear hY1
      by_cases hc : ((k : Int) + 1) * m ≤ 600
      · have Hat0 : Hid (atX e m (k + 1) = addMF e (-(((k : Int) + 1) * m))) := hid (by
          have w1 : withinB e 0 36524 = true := (within_iff' _ _ _).2 ⟨h0e, h1e⟩
          have w2 : withinB (-(((k : Int) + 1) * m)) (-600) 600 = true := (within_iff' _ _ _).2 (by omega)
          unfold atX addMF; rw [if_neg (by omega), hp, if_pos hc, w1, w2]; rfl)
        have Hn : Hid (-((k : Int) + 1) * m = -(((k : Int) + 1) * m)) := hid (Int.neg_mul _ _)
        generalize hA1 : atX e m (k + 1) = a1 at *
        generalize hA0 : atX e m k = a0 at *
        have Hat := hid hA1; have HA0 := hid hA0
        clear hA1 hA0 hp
        have hq0 : -438300 ≤ -((k : Int) + 1) * m := by rw [Hn.out]; omega
        have hq1 : -((k : Int) + 1) * m ≤ 0 := by rw [Hn.out]; omega
        gi_wp2
        refine ⟨trivial, fun _ => by omega, (callsIn_wide.2 (AddMonths_any e _ wr Hmr.out)).mono ?_⟩
        rintro e' W2 ⟨rfl, hg2⟩
        rw [Hn.out, ← Hat0.out]
        obtain ⟨fn, tmps, assign, body, hy, hR⟩ := HY.out W2 (hJa _ _ _ HJ.out hg2)
        have HkG := hid (Hkp.out.trans (KpX.of_gr hg2 (fun _ h => by cases h)))
        clear hg2 ce cs cm hq0 hq1
        gi_wp2
        refine ⟨fun _ => by omega, hR.mono ?_⟩
        rintro e' W3 (⟨rfl, hJ3, hk3⟩ | ⟨rfl, hJx3⟩)
        · have Hk4 := hid (HkG.out.trans hk3)
          have HJ4 := hid hJ3
          clear hJ3 hk3
          gi_wp2
          go_roundw
          case rel => exact ⟨k + 1, by push_cast; rfl, by rw [Hat.out], by rw [Hat.out]; push_cast; omega, by rw [Hat.out]; omega, Hall2, by rw [uptoX_succ]; exact HJ4.out, Hk4.out⟩
          case measure => simp [intOf]; omega
        · gi_wp2
          refine bodyPost_ret (results_none rfl _ _ _) rfl ?_
          exact ⟨⟨_, rfl⟩, .inr ⟨_, ⟨k, (uptoX_succ _ _ _).symm, Hall2.out⟩, hJx3⟩⟩
      · have Hat0 : Hid (atX e m (k + 1) = -1) := hid (by unfold atX; rw [if_neg (by omega), hp, if_neg hc])
        rw [Hat0.out] at HY
        generalize hA0 : atX e m k = a0 at *
        have HA0 := hid hA0
        have Hat := Hat0
        clear hA0 hp
        obtain ⟨fn, tmps, assign, body, hy, hR⟩ := HY.out wr HJ.out
        have HkG := Hkp
        have hdec2 : (-1 : Int) < a0 := by omega
        gi_wp2
        refine ⟨fun _ => by omega, hR.mono ?_⟩
        rintro e' W3 (⟨rfl, hJ3, hk3⟩ | ⟨rfl, hJx3⟩)
        · have Hk4 := hid (HkG.out.trans hk3)
          have HJ4 := hid hJ3
          clear hJ3 hk3
          gi_wp2
          go_roundw
          case rel => exact ⟨k + 1, by push_cast; rfl, by rw [Hat.out], by rw [Hat.out]; push_cast; omega, by rw [Hat.out]; omega, Hall2, by rw [uptoX_succ]; exact HJ4.out, Hk4.out⟩
          case measure => simp [intOf]; omega
        · gi_wp2
          refine bodyPost_ret (results_none rfl _ _ _) rfl ?_
          exact ⟨⟨_, rfl⟩, .inr ⟨_, ⟨k, (uptoX_succ _ _ _).symm, Hall2.out⟩, hJx3⟩⟩
    · gi_wp2
      go_end0
      exact ⟨⟨_, rfl⟩, .inl ⟨_, ⟨k, rfl, Hall.out, by omega⟩, HJ.out⟩⟩

end Go.Proofs.YtielicmjdhmcjaaGreatDoor

/- The program's ScheduleOf, walked. -/
namespace Go.Proofs.YtielicmjdhmcjaaGreatDoor
open Go.RowKit Go.Shelf
attribute [local go_sem] Oper.semAt_some

set_option maxRecDepth 100000 in
set_option maxHeartbeats 400000 in
theorem IndexInts_any (a : Option Addr) (n cap : Nat) (xs : List Int) (v : Int) (w : World) (hs : Sl intL w a n xs) :
    Calls Tryz.prog 178 #[.slice a n cap, .int .i64 v] w fun e w' => ∃ i : Int, e = .returned (.int .i64 i) ∧ decide (0 ≤ i) = xs.any (fun x => v == x) ∧ w = w' := by
  have hbig := hs.big
  unfold maxLen at hbig
  have Hs := hid hs; clear hs
  go_enter Tryz.func178, Tryz.ntmps178
  go_wp2_with fail
  go_loop [8] (fun i => ∃ k : Nat, k ≤ n ∧ i = .int .i64 k ∧ (xs.take k).any (fun x => v == x) = false) (fun i => n - (intOf i).toNat)
  case atStart => exact ⟨0, by omega, rfl, rfl⟩
  case round =>
    obtain ⟨k, hk, rfl, hall⟩ := hrel
    have Hall := hid hall; clear hall
    by_cases hlt : k < n
    · obtain ⟨b, off, x, rfl, hxk, h1⟩ := int_at Hs.out k hlt
      have Hxk := hid hxk; clear hxk
      have hi0 : (0 : Int) ≤ k := by omega
      have hi1 : (k : Int) < n := by omega
      by_cases hx : v = x
      · have hb : (v == x) = true := by simpa using hx
        have Hb := hid hb
        clear hx
        go_wp2_with fail
        go_ret
        refine ⟨k, rfl, ?_, rfl⟩
        rw [any_true _ _ (k + 1)]
        · simp
        · rw [take_any _ _ _ _ Hxk.out, Hall.out, Bool.false_or]; exact Hb.out
      · have hb : (v == x) = false := by simpa using hx
        have Hb := hid hb
        clear hx
        go_wp2_with fail
        go_round
        case rel => exact ⟨k+1, by omega, by go_num, by rw [take_any _ _ _ _ Hxk.out, Hall.out, Bool.false_or]; exact Hb.out⟩
        case measure => simp [intOf]; omega
    · go_wp2
      go_ret
      obtain rfl : k = n := by omega
      exact ⟨-1, rfl, by rw [take_len _ _ Hs.out.len] at Hall; rw [Hall.out]; rfl, rfl⟩

theorem ContainsInts_any (a : Option Addr) (n cap : Nat) (xs : List Int) (v : Int) (w : World) (hs : Sl intL w a n xs) :
    Calls Tryz.prog 167 #[.slice a n cap, .int .i64 v] w fun e w' => e = .returned (.bool (xs.any (fun x => v == x))) ∧ w = w' := by
  go_enter Tryz.func167, Tryz.ntmps167
  go_wp2_with fail
  refine (IndexInts_any a n cap xs v w hs).mono ?_
  rintro e w' ⟨i, rfl, hi, rfl⟩
  have Hi := hid hi; clear hi
  go_wp2
  go_ret
  exact ⟨ret_bool Hi.out, rfl⟩

theorem ends_in (n : Nat) (s e m : Int) (w : World) :
    CallsIn Fence.wide n Tryz.prog 168 #[.int .i64 s, .int .i64 e, .int .i64 m] w fun e' w' => e' = .returned (.func (.func 179) #[] #[.pointer (some ⟨w.heap.size + 1, 0, none⟩), .pointer (some ⟨w.heap.size, 0, none⟩), .pointer (some ⟨w.heap.size + 2, 0, none⟩)]) ∧
      w' = ((w.alloc (.cells #[.int .i64 s] 3)).alloc (.cells #[.int .i64 e] 3)).alloc (.cells #[.int .i64 m] 3) := by
  refine callsIn_of_wp Tryz.func168 rfl trivial ?_ rfl
  simp only [Tryz.ntmps168, List.size_toArray, List.length_cons, List.length_nil, Nat.reduceAdd, Nat.reduceSub, Array.replicate_succ, Array.replicate_zero, List.push_toArray, List.append_toArray, List.nil_append, List.cons_append]
  gi_wp2
  go_ret
  exact ⟨rfl, rfl⟩

def toP (s : Int) (x : Int × Int) : Per := ⟨max x.2 s, x.1, decide (s ≤ x.2)⟩
theorem infoPer : (Tryz.prog.info? 115).map (fun i => (i.zero, i.size, i.bytes)) = some (some (.agg #[.int .i64 0, .int .i64 0, .bool false]), 3, 24) := by kernel_rfl

theorem months_any (m : Int) : ([1, 3, 6, 12] : List Int).any (fun x => m == x) = (decide (m = 1) || decide (m = 3) || decide (m = 6) || decide (m = 12)) := by
  simp [Bool.or_assoc]; rfl

theorem atX_back (e m : Int) (k : Nat) (hk : k ≤ 41) (h0 : 0 ≤ e) (h1 : e ≤ 36524) (_hm : 1 ≤ m) (hm12 : m ≤ 12) : atX e m k = backA e m k := by
  by_cases hk0 : k = 0
  · subst hk0; rw [back_zero e m h0 h1]; unfold atX; rw [if_pos rfl]
  · have h2 : (k : Int) * m ≤ 41 * 12 := by
      have a : (k : Int) * m ≤ k * 12 := Int.mul_le_mul_of_nonneg_left hm12 (by omega)
      omega
    unfold atX backA; rw [if_neg hk0, if_pos (by omega)]

theorem boxed_own {β : Type} (B : Nat) (t : TypeId) (v : Value) : Own (fun (_ : β) W => Boxed W B t v) := fun _ X Y row hv hg hrow =>
  hv.kept hg (fun e' => by
    obtain ⟨o, ho, hc⟩ := hrow B e'.symm
    rw [show X.heap[B]? = _ from hv] at ho; cases ho; cases hc)

theorem kp_append {bl : List Nat} {W w1 : World} {V : Nat} {v v' : Value} {tmp : Obj} (hbl : ∀ b ∈ bl, b ≠ V ∧ some b ≠ v.ownBlock) (hgrow : (W.alloc tmp).grownBy w1 v.ownBlock) : KpX bl W (w1.setCell ⟨V, 0, none⟩ v') :=
  ((KpX.of_gr (gr_alloc (gr0 W) tmp) (fun _ h => by cases h)).trans (KpX.of_gr hgrow (fun b e hb => (hbl b hb).2 e.symm))).trans (KpX.of_gr (gr_setCell (r := some V) (gr_refl _ _) (.inl rfl) _) (fun b e hb => by cases e; exact (hbl V hb).1 rfl))

theorem toP_list (s e m : Int) (q : Nat) (hq : q ≤ 40) (h0 : 0 ≤ e) (h1 : e ≤ 36524) (hm : 1 ≤ m) (hm12 : m ≤ 12) : (uptoX e m q).map (toP s) = (List.range q).map (perOf s e m) := by
  unfold uptoX
  rw [List.map_map]
  refine List.map_congr_left (fun k hk => ?_)
  have hk2 : k < q := List.mem_range.1 hk
  simp only [Function.comp, pairX, toP, perOf, atX_back e m k (by omega) h0 h1 hm hm12, atX_back e m (k + 1) (by omega) h0 h1 hm hm12]

set_option maxRecDepth 100000 in
set_option maxHeartbeats 4000000 in
theorem ScheduleOk_in (s e m : Int) (w : World) (hw : Months w) (hsp : spanB s e m = true) :
    CallsIn Fence.wide 10 Tryz.prog 151 #[.int .i64 s, .int .i64 e, .int .i64 m] w fun e' w' => ∃ a n cap, e' = .returned (.slice a n cap) ∧ Ow perL w' w.heap.size a n (schedF s e m) ∧ n ≤ cap ∧ Below w.heap.size w w' := by
  obtain ⟨i0, hi, hz0, hz1, hz2⟩ := info_parts infoPer
  obtain ⟨s0, se, e1, mm⟩ := span_facts hsp
  have d1 : withinB s 0 36524 = true := (within_iff' _ _ _).2 (by omega)
  have d2 : withinB e 0 36524 = true := (within_iff' _ _ _).2 (by omega)
  have d3 : decide (e ≤ s) = false := by simp; omega
  have d4 : ([1, 3, 6, 12] : List Int).any (fun x => m == x) = true := by rw [months_any]; simp; omega
  have D4 := hid d4; clear d4
  have Hw := hid hw; clear hw
  refine callsIn_of_wp_marks Tryz.func151 rfl trivial ?_ rfl
  simp only [Tryz.ntmps151, List.size_toArray, List.length_cons, List.length_nil, Nat.reduceAdd, Nat.reduceSub, Array.replicate_succ, Array.replicate_zero, List.push_toArray, List.append_toArray, List.nil_append, List.cons_append]
  gi_wp2
  refine ⟨trivial, (callsIn_wide.2 (dayValid_any s _)).mono ?_⟩
  rintro e' w1 ⟨rfl, rfl⟩
  rw [d1]
  gi_wp2
  refine ⟨trivial, (callsIn_wide.2 (dayValid_any e _)).mono ?_⟩
  rintro e' w1 ⟨rfl, rfl⟩
  rw [d2]
  gi_wp2
  have hsl : Sl intL (((w.alloc (.cells #[.int .i64 s] 3)).alloc (.cells #[.slice none 0 0] 111)).alloc (.cells #[.int .i64 1, .int .i64 3, .int .i64 6, .int .i64 12] 3)) (some ⟨w.heap.size + 1 + 1, 0, none⟩) 4 [1, 3, 6, 12] := by
    have := Sl.lit intL ((w.alloc (.cells #[.int .i64 s] 3)).alloc (.cells #[.slice none 0 0] 111)) #[.int .i64 1, .int .i64 3, .int .i64 6, .int .i64 12] 3 4 [1, 3, 6, 12] (by simp [intL]) rfl (by omega)
    simpa using this
  refine ⟨trivial, (callsIn_wide.2 (ContainsInts_any (some ⟨w.heap.size + 1 + 1, 0, none⟩) 4 4 [1, 3, 6, 12] m _ hsl)).mono ?_⟩
  rintro e' w1 ⟨rfl, rfl⟩
  rw [D4.out]
  obtain ⟨Z, hZ, hmk⟩ : ∃ Z : Array Value, Z.size = 40 * 3 ∧ ∀ wx : World, (Instr.makeSlice 111 (.int .i64 0) (.int .i64 40)).run Tryz.prog wx = .ok (.slice (some ⟨wx.heap.size, 0, none⟩) 0 40) (wx.alloc (.cells Z 115)) := by
    refine ⟨madeCells (Value.cells (.agg #[.int .i64 0, .int .i64 0, .bool false])) (40 * i0.size), by rw [size_madeCells, hz1], fun wx => ?_⟩
    have := run_make (P := Tryz.prog) wx 111 115 i0 _ Tryz.underlying111 hi hz0 .i64 .i64 0 40 (by omega) (by omega) (by rw [hz2]; omega) (by omega)
    simpa using this
  gi_wp2
  refine ⟨trivial, (ends_in _ s e m _).mono ?_⟩
  rintro e' w1 ⟨rfl, rfl⟩
  gi_wp2
  have nf : ∀ k : Nat, w.heap.size + 1 + k = w.heap.size + (k + 1) := fun k => by omega
  rw [show w.heap.size + 1 + 1 + 1 + 1 + 1 + 2 = w.heap.size + 7 by omega, show w.heap.size + 1 + 1 + 1 + 1 + 1 + 1 = w.heap.size + 6 by omega, show w.heap.size + 1 + 1 + 1 + 1 + 1 = w.heap.size + 5 by omega, show w.heap.size + 1 + 1 + 1 + 1 = w.heap.size + 4 by omega, show w.heap.size + 1 + 1 + 1 = w.heap.size + 3 by omega]
  clear nf
  obtain ⟨W0, hW0⟩ : ∃ W0, W0 = ((((((((w.alloc (.cells #[.int .i64 s] 3)).alloc (.cells #[.slice none 0 0] 111)).alloc (.cells #[.int .i64 1, .int .i64 3, .int .i64 6, .int .i64 12] 3)).alloc (.cells Z 115)).alloc (.cells #[.slice (some ⟨w.heap.size + 3, 0, none⟩) 0 40] 111)).alloc (.cells #[.int .i64 s] 3)).alloc (.cells #[.int .i64 e] 3)).alloc (.cells #[.int .i64 m] 3)) := ⟨_, rfl⟩
  rw [← hW0]
  have hsz : W0.heap.size = w.heap.size + 8 := by rw [hW0]; simp
  have bS : Boxed W0 w.heap.size 3 (.int .i64 s) := by rw [hW0]; exact (((((((Boxed.new w _ _).alloc _).alloc _).alloc _).alloc _).alloc _).alloc _).alloc _
  have bR : Boxed W0 (w.heap.size + 1) 111 (.slice none 0 0) := by
    have := ((((((Boxed.new (w.alloc (.cells #[.int .i64 s] 3)) 111 (.slice none 0 0)).alloc (.cells #[.int .i64 1, .int .i64 3, .int .i64 6, .int .i64 12] 3)).alloc (.cells Z 115)).alloc (.cells #[.slice (some ⟨w.heap.size + 3, 0, none⟩) 0 40] 111)).alloc (.cells #[.int .i64 s] 3)).alloc (.cells #[.int .i64 e] 3)).alloc (.cells #[.int .i64 m] 3)
    rw [World.size_alloc] at this
    rw [hW0]; exact this
  have hrow0 : W0.ownsRow (w.heap.size + 3) 115 3 (.slice (some ⟨w.heap.size + 3, 0, none⟩) 0 40) 0 [] := by
    have := ((((World.ownsRow_made (base := w.heap.size + 3) (size := 3) (e := 115) (((w.alloc (.cells #[.int .i64 s] 3)).alloc (.cells #[.slice none 0 0] 111)).alloc (.cells #[.int .i64 1, .int .i64 3, .int .i64 6, .int .i64 12] 3)) Z 40 (by simp) (by unfold maxLen; omega) hZ).alloc (.cells #[.slice (some ⟨w.heap.size + 3, 0, none⟩) 0 40] 111)).alloc (.cells #[.int .i64 s] 3)).alloc (.cells #[.int .i64 e] 3)).alloc (.cells #[.int .i64 m] 3)
    rw [World.size_alloc, World.size_alloc, World.size_alloc] at this
    rw [hW0]; exact this
  have bV : Boxed W0 (w.heap.size + 4) 111 (.slice (some ⟨w.heap.size + 3, 0, none⟩) 0 40) := by
    have := (((Boxed.new ((((w.alloc (.cells #[.int .i64 s] 3)).alloc (.cells #[.slice none 0 0] 111)).alloc (.cells #[.int .i64 1, .int .i64 3, .int .i64 6, .int .i64 12] 3)).alloc (.cells Z 115)) 111 (.slice (some ⟨w.heap.size + 3, 0, none⟩) 0 40)).alloc (.cells #[.int .i64 s] 3)).alloc (.cells #[.int .i64 e] 3)).alloc (.cells #[.int .i64 m] 3)
    rw [World.size_alloc, World.size_alloc, World.size_alloc, World.size_alloc] at this
    rw [hW0]; exact this
  have bs : Boxed W0 (w.heap.size + 5) 3 (.int .i64 s) := by
    have := ((Boxed.new (((((w.alloc (.cells #[.int .i64 s] 3)).alloc (.cells #[.slice none 0 0] 111)).alloc (.cells #[.int .i64 1, .int .i64 3, .int .i64 6, .int .i64 12] 3)).alloc (.cells Z 115)).alloc (.cells #[.slice (some ⟨w.heap.size + 3, 0, none⟩) 0 40] 111)) 3 (.int .i64 s)).alloc (.cells #[.int .i64 e] 3)).alloc (.cells #[.int .i64 m] 3)
    rw [World.size_alloc, World.size_alloc, World.size_alloc, World.size_alloc, World.size_alloc] at this
    rw [hW0]; exact this
  have be : Boxed W0 (w.heap.size + 6) 3 (.int .i64 e) := by
    have := (Boxed.new ((((((w.alloc (.cells #[.int .i64 s] 3)).alloc (.cells #[.slice none 0 0] 111)).alloc (.cells #[.int .i64 1, .int .i64 3, .int .i64 6, .int .i64 12] 3)).alloc (.cells Z 115)).alloc (.cells #[.slice (some ⟨w.heap.size + 3, 0, none⟩) 0 40] 111)).alloc (.cells #[.int .i64 s] 3)) 3 (.int .i64 e)).alloc (.cells #[.int .i64 m] 3)
    rw [World.size_alloc, World.size_alloc, World.size_alloc, World.size_alloc, World.size_alloc, World.size_alloc] at this
    rw [hW0]; exact this
  have bm : Boxed W0 (w.heap.size + 7) 3 (.int .i64 m) := by
    have := (Boxed.new (((((((w.alloc (.cells #[.int .i64 s] 3)).alloc (.cells #[.slice none 0 0] 111)).alloc (.cells #[.int .i64 1, .int .i64 3, .int .i64 6, .int .i64 12] 3)).alloc (.cells Z 115)).alloc (.cells #[.slice (some ⟨w.heap.size + 3, 0, none⟩) 0 40] 111)).alloc (.cells #[.int .i64 s] 3)).alloc (.cells #[.int .i64 e] 3)) 3 (.int .i64 m))
    rw [World.size_alloc, World.size_alloc, World.size_alloc, World.size_alloc, World.size_alloc, World.size_alloc, World.size_alloc] at this
    rw [hW0]; exact this
  have hB0 : Below w.heap.size w W0 := by
    rw [hW0]; exact (((((((((Below.refl _ w).alloc (Nat.le_refl _) _).alloc (by simp) _).alloc (by simp; omega) _).alloc (by simp; omega) _).alloc (by simp; omega) _).alloc (by simp; omega) _).alloc (by simp; omega) _).alloc (by simp; omega) _)
  have HmW := hid (Hw.out.keep0 (gr_below hB0 (Nat.le_refl _)))
  have hw0 : 1 < w.heap.size := block_lt (Hw.out.cell 0 31 rfl) |> fun h => by simpa using h
  clear hW0 hZ hsl hmk
  obtain ⟨H, hH⟩ : ∃ H, H = w.heap.size := ⟨_, rfl⟩
  rw [← hH] at bS bR hrow0 bV bs be bm hB0 hsz hw0 ⊢
  have hH1 : H ≤ w.heap.size := by omega
  have hH2 : w.heap.size ≤ H := by omega
  have HH := hid hH; clear hH
  refine wpIn_rangeFunc_ownG rfl (by omega) (gf := 179) (lb := #[.pointer (some ⟨H + 6, 0, none⟩), .pointer (some ⟨H + 5, 0, none⟩), .pointer (some ⟨H + 7, 0, none⟩)]) rfl trivial (enters_of Tryz.func179 (by kernel_rfl) rfl)
    (encs := fun x : Int × Int => #[.int .i64 x.1, .int .i64 x.2]) (Kp := KpX [H + 6, H + 5, H + 7, 1]) (N := 40000) (w0 := W0)
    (S := fun ys => ∃ q, ys = uptoX e m q ∧ (∀ j, j < q → s < atX e m j) ∧ atX e m q ≤ s) (Sp := fun pre => ∃ q, pre = uptoX e m (q + 1) ∧ (∀ j, j < q + 1 → s < atX e m j))
    (fun l J Jx W hW hJ _ hY h0 => ends1_in 9 (by omega) l (H + 6) (H + 5) (H + 7) 40000 s e m [H + 6, H + 5, H + 7, 1] (by simp) s0 (by omega) e1 (by omega) (by omega) (by omega) J Jx (fun p A B hp hg => hJ p A B none hp hg (fun _ e => by cases e)) hY W
      (hW.block _ (by omega) |>.trans be) (hW.block _ (by omega) |>.trans bs) (hW.block _ (by omega) |>.trans bm) (HmW.out.keep0 (gr_below hW (Nat.le_refl _))) h0)
    (fun h k => h.trans k) (fun W l o o' _ hl hc _ => KpX.put W l o o' hl hc) (Below.refl _ _) (fun _ => rfl)
    (fun pre W => ((∃ v, Boxed W (H + 4) 111 v ∧ W.ownsRow (H + 3) 115 3 v pre.length ((pre.map (toP s)).flatMap perL.cells) ∧ ((∃ g cap, v = .slice (some ⟨g, 0, none⟩) pre.length cap) ∧ pre.length ≤ 40)) ∧ Boxed W H 3 (.int .i64 s) ∧ Boxed W (H + 1) 111 (.slice none 0 0) ∧ Boxed W (H + 6) 3 (.int .i64 e) ∧ Boxed W (H + 5) 3 (.int .i64 s) ∧ Boxed W (H + 7) 3 (.int .i64 m)) ∧ Below H w W)
    (fun c pre W => ((c = .ret ∧ pre.length = 41) ∧ Boxed W (H + 1) 111 (.slice none 0 0)) ∧ Below H w W)
    (OwnFrom.and (Own.from (fun p A B row hs hg hr => ⟨holdsRow_own (H + 3) (H + 4) 111 115 3 (fun pre : List (Int × Int) => pre.length) (fun pre => (pre.map (toP s)).flatMap perL.cells) (fun pre v => (∃ g cap, v = .slice (some ⟨g, 0, none⟩) pre.length cap) ∧ pre.length ≤ 40) p A B row hs.1 hg hr,
        boxed_own _ _ _ p A B row hs.2.1 hg hr, boxed_own _ _ _ p A B row hs.2.2.1 hg hr, boxed_own _ _ _ p A B row hs.2.2.2.1 hg hr, boxed_own _ _ _ p A B row hs.2.2.2.2.1 hg hr, boxed_own _ _ _ p A B row hs.2.2.2.2.2 hg hr⟩) _) (ownFrom_below (by omega) (by omega)))
    (fun c => OwnFrom.and (Own.from (fun p A B row hs hg hr => ⟨hs.1, boxed_own _ _ _ p A B row hs.2 hg hr⟩) _) (ownFrom_below (by omega) (by omega)))
    ⟨⟨⟨_, bV, by simpa using hrow0, ⟨⟨_, _, rfl⟩, by simp⟩⟩, bS, bR, be, bs, bm⟩, hB0⟩
    (fun x => { tmps := #[.int .i64 s, .int .i64 e, .int .i64 m, .pointer (some ⟨H, 0, none⟩), undef, undef, .pointer (some ⟨H + 1, 0, none⟩), .pointer (some ⟨H + 4, 0, none⟩), .int .i64 x.1, .int .i64 x.2, .int .i64 s, .bool true, .bool false, .bool false, .int .i64 e, .bool true, .bool false, .bool false, .bool false, .int .i64 e, .int .i64 s, .bool false, .bool false, .bool false, .slice (some ⟨H + 1 + 1, 0, none⟩) 4 4, .int .i64 m, .bool true, .bool false, .bool false, .slice (some ⟨H + 3, 0, none⟩) 0 40, .int .i64 s, .int .i64 e, .int .i64 m, .func (.func 179) #[] #[.pointer (some ⟨H + 6, 0, none⟩), .pointer (some ⟨H + 5, 0, none⟩), .pointer (some ⟨H + 7, 0, none⟩)], .int .i64 x.1, .int .i64 x.2, undef, undef, undef, undef, undef, undef, undef, undef, undef, undef, undef, undef, undef, undef, undef, undef, undef, undef], defers := [] })
    ?assign ?body ?done ?stop
  case assign =>
    intro l x W K hK
    gi_wp2
    exact hK
  case body =>
    rintro l pre x W ⟨⟨⟨v, hv, hrow, ⟨g, cap, rfl⟩, hle⟩, hbS, hbR, hbe, hbs, hbm⟩, hB⟩ _
    have cv := hv.cell
    have cS := hbS.cell
    have cR := hbR.cell
    have fR := hbR.frozen
    have hsW := hB.size
    have hll : (pre ++ [x]).length = pre.length + 1 := by simp
    have hgB : H + 3 ≤ g := (hrow.lt g rfl).1
    have hbl : ∀ b ∈ [H + 6, H + 5, H + 7, 1], b ≠ H + 4 ∧ some b ≠ (Value.slice (some ⟨g, 0, none⟩) pre.length cap).ownBlock := by
      intro b hb
      simp only [List.mem_cons, List.mem_nil_iff, or_false] at hb
      rcases hb with rfl | rfl | rfl | rfl
      · exact ⟨by omega, hbe.not_row (by decide) hrow⟩
      · exact ⟨by omega, hbs.not_row (by decide) hrow⟩
      · exact ⟨by omega, hbm.not_row (by decide) hrow⟩
      · exact ⟨by omega, by simp [Value.ownBlock]; omega⟩
    have Hbl := hid hbl; have Hll := hid hll
    clear hbl hll
    by_cases h40 : pre.length = 40
    · have hb : ((pre.length : Int) == 40) = true := by rw [h40]; rfl
      have H40 := hid h40; clear h40
      have Hrow := hid hrow; have HB := hid hB
      clear hrow hB
      gi_wp2
      exact ⟨(KeepsOthers.setCell _ _ _).from _, ⟨⟨rfl, by rw [Hll.out, H40.out]⟩, hbR.set _⟩, HB.out.setCell (p := ⟨H + 1, 0, none⟩) (Nat.le_succ H) _⟩
    · have hb : ((pre.length : Int) == 40) = false := by simp; omega
      have hWs : H + 3 ≤ W.heap.size := by have := hv.lt; omega
      have hle3 : H + 3 ≤ H + 4 := by omega
      by_cases hmx : s ≤ x.2
      · have hP : toP s x = ⟨x.2, x.1, true⟩ := by unfold toP; rw [decide_eq_true hmx, show max x.2 s = x.2 by omega]
        have HP := hid hP; clear hP
        have hmx2 : ¬ x.2 < s := by omega
        gi_wp2_with (gi_at_builtin; refine wpListIn_append_own _ rfl _ _ 111 rfl (H + 3) 115 i0 _ 3 24 Tryz.underlying111 hi hz0 hz1 hz2 rfl (by decide) _ _ _ rfl (hrow.alloc _) ⟨W.heap.size, 0, none⟩ 1 1 [.int .i64 x.2, .int .i64 x.1, .bool true] rfl rfl (cells_new W _ _ _ rfl) (by simp [Value.oneCell']) (by unfold maxLen; omega) (by omega) (by simp; omega) ?_; intro v' w1 hown' hgrow _; obtain ⟨g', cap', rfl⟩ := ownsRow_succ hown'; obtain ⟨hv1, hv2, hr2, hk2, hb2⟩ := hv.appended (by decide) hrow hWs hle3 hown' hgrow; have hc1 := hv1.cell; have hf1 := hv1.frozen; have hkk : KpX [H + 6, H + 5, H + 7, 1] W (w1.setCell ⟨H + 4, 0, none⟩ (.slice (some ⟨g', 0, none⟩) (pre.length + 1) cap')) := kp_append Hbl.out hgrow; have hx := fun (B : Nat) (u : Value) (hu : Boxed W B 3 u) (h4 : B ≠ H + 4) => (Boxed.kept (hu.alloc _) hgrow (Boxed.not_row hu (by decide) hrow)).kept (gr_setCell (r := some (H + 4)) (p := ⟨H + 4, 0, none⟩) (gr_refl w1 _) (.inl rfl) (.slice (some ⟨g', 0, none⟩) (pre.length + 1) cap')) (fun e => h4 (Option.some.inj e)); have hxR := (Boxed.kept (hbR.alloc _) hgrow (Boxed.not_row hbR (by decide) hrow)).kept (gr_setCell (r := some (H + 4)) (p := ⟨H + 4, 0, none⟩) (gr_refl w1 _) (.inl rfl) (.slice (some ⟨g', 0, none⟩) (pre.length + 1) cap')) (by simp))
        refine ⟨hk2.from _, hkk, ⟨⟨⟨_, hv2, ?_, ⟨⟨_, _, by rw [Hll.out]⟩, by rw [Hll.out]; omega⟩⟩, hx _ _ hbS (by omega), hxR, hx _ _ hbe (by omega), hx _ _ hbs (by omega), hx _ _ hbm (by omega)⟩, hB.trans (hb2.mono (by omega))⟩⟩
        rw [Hll.out, List.map_append, List.flatMap_append, show List.map (toP s) [x] = [toP s x] from rfl, HP.out]
        exact hr2
      · have hP : toP s x = ⟨s, x.1, false⟩ := by unfold toP; rw [decide_eq_false hmx, show max x.2 s = s by omega]
        have HP := hid hP; clear hP
        have hmx2 : x.2 < s := by omega
        gi_wp2_with (gi_at_builtin; refine wpListIn_append_own _ rfl _ _ 111 rfl (H + 3) 115 i0 _ 3 24 Tryz.underlying111 hi hz0 hz1 hz2 rfl (by decide) _ _ _ rfl (hrow.alloc _) ⟨W.heap.size, 0, none⟩ 1 1 [.int .i64 s, .int .i64 x.1, .bool false] rfl rfl (cells_new W _ _ _ rfl) (by simp [Value.oneCell']) (by unfold maxLen; omega) (by omega) (by simp; omega) ?_; intro v' w1 hown' hgrow _; obtain ⟨g', cap', rfl⟩ := ownsRow_succ hown'; obtain ⟨hv1, hv2, hr2, hk2, hb2⟩ := hv.appended (by decide) hrow hWs hle3 hown' hgrow; have hc1 := hv1.cell; have hf1 := hv1.frozen; have hkk : KpX [H + 6, H + 5, H + 7, 1] W (w1.setCell ⟨H + 4, 0, none⟩ (.slice (some ⟨g', 0, none⟩) (pre.length + 1) cap')) := kp_append Hbl.out hgrow; have hx := fun (B : Nat) (u : Value) (hu : Boxed W B 3 u) (h4 : B ≠ H + 4) => (Boxed.kept (hu.alloc _) hgrow (Boxed.not_row hu (by decide) hrow)).kept (gr_setCell (r := some (H + 4)) (p := ⟨H + 4, 0, none⟩) (gr_refl w1 _) (.inl rfl) (.slice (some ⟨g', 0, none⟩) (pre.length + 1) cap')) (fun e => h4 (Option.some.inj e)); have hxR := (Boxed.kept (hbR.alloc _) hgrow (Boxed.not_row hbR (by decide) hrow)).kept (gr_setCell (r := some (H + 4)) (p := ⟨H + 4, 0, none⟩) (gr_refl w1 _) (.inl rfl) (.slice (some ⟨g', 0, none⟩) (pre.length + 1) cap')) (by simp))
        refine ⟨hk2.from _, hkk, ⟨⟨⟨_, hv2, ?_, ⟨⟨_, _, by rw [Hll.out]⟩, by rw [Hll.out]; omega⟩⟩, hx _ _ hbS (by omega), hxR, hx _ _ hbe (by omega), hx _ _ hbs (by omega), hx _ _ hbm (by omega)⟩, hB.trans (hb2.mono (by omega))⟩⟩
        rw [Hll.out, List.map_append, List.flatMap_append, show List.map (toP s) [x] = [toP s x] from rfl, HP.out]
        exact hr2
  case done =>
    rintro D ys W hD ⟨q, rfl, hall, hend⟩ ⟨⟨⟨v, hv, hrow, ⟨g, cap, rfl⟩, hle⟩, hbS, hbR, hbe, hbs, hbm⟩, hB⟩ hK
    rw [uptoX_len] at hrow hle hv
    have hcnt : cnt s e m = q := cnt_of s e m q (by omega) (fun j hj => by have := hall j hj; rwa [atX_back e m j (by omega) (by omega) e1 (by omega) (by omega)] at this) (.inr (by rwa [atX_back e m q (by omega) (by omega) e1 (by omega) (by omega)] at hend))
    have hq1 : 1 ≤ q := by rw [← hcnt]; exact cnt_pos hsp
    have Hsf : Hid (((uptoX e m q).map (toP s)).reverse = schedF s e m) := hid (by
      have hok : schedOk s e m = true := by unfold schedOk; rw [hsp, hcnt]; simpa using hle
      unfold schedF
      rw [if_pos hok, toP_list s e m q hle (by omega) e1 (by omega) (by omega)]
      unfold schedL
      rw [hcnt])
    have how : Ow perL W (H + 3) (some ⟨g, 0, none⟩) q ((uptoX e m q).map (toP s)) := Ow.of_own hrow (by rw [List.length_map, uptoX_len]) (by unfold maxLen; omega)
    have hcap : q ≤ cap ∧ cap ≤ maxLen := by
      rcases hrow.2 with ⟨e9, _⟩ | ⟨g9, cap9, cur, e9, _, _, h7, h8, _⟩
      · cases e9
      · cases e9; exact ⟨h7, h8⟩
    have hgV : g ≠ H + 4 := fun e9 => hv.not_row (by decide) hrow (by rw [e9]; rfl)
    have hgR : g ≠ H + 1 := fun e9 => hbR.not_row (by decide) hrow (by rw [e9]; rfl)
    have hgK : g ≠ D := fun e9 => by
      obtain ⟨b, o, e3, _, _, hf, hc⟩ := how.mem (by omega)
      rcases hrow.2 with ⟨e9, _⟩ | ⟨g9, cap9, cur, e4, _, h6, _⟩
      · cases e9
      · cases e4; rw [e9, hK] at h6; cases h6
    have hgB : H + 3 ≤ g := (hrow.lt g rfl).1
    have cv := hv.cell
    have How := hid how; have HB := hid hB; have Hall := hid hall; have Hrow := hid hrow
    have HK := hid hK
    obtain ⟨hcap1, hcap2⟩ := hcap
    clear how hB hall hrow hK hend hcnt
    gi_wp2
    refine ⟨trivial, (callsIn_wide.2 (ReversePers_any g (H + 3) q cap _ W How.out hq1 (by omega))).mono ?_⟩
    rintro e' W2 ⟨rfl, ho2, hg2⟩
    have hv2 := hv.kept hg2 (fun e9 => hgV (Option.some.inj e9).symm)
    have hR2 := hbR.kept hg2 (fun e9 => hgR (Option.some.inj e9).symm)
    have hK2 : W2.heap[D]? = some (.deferred (some [])) := blk_keep HK.out hg2 (fun k e9 => by cases e9; exact hgK)
    have hB2 : Below H w W2 := HB.out.trans (below_gr hg2 (fun k e9 => by cases e9; omega) (by have := hv.lt; omega))
    rw [Hsf.out] at ho2
    have Ho2 := hid ho2; have HK2 := hid hK2; have HB2 := hid hB2
    have cv2 := hv2.cell
    have cR := hR2.cell
    have fR := hR2.frozen
    clear ho2 hK2 hB2 hg2 cv
    gi_wp2
    refine ⟨trivial, (callsIn_wide.2 (ClipPers_any (some ⟨g, 0, none⟩) q cap W2 hcap1 hcap2 rfl)).mono ?_⟩
    rintro e' W3 ⟨rfl, rfl⟩
    gi_wp2
    have hD8 : H + 8 ≤ D := by omega
    have hK3 : (W2.setCell ⟨H + 1, 0, none⟩ (.slice (some ⟨g, 0, none⟩) q q)).heap[D]? = some (.deferred (some [])) := blk_set_other HK2.out _ (by simp; omega) _
    have hR3 : Boxed (W2.setCell ⟨H + 1, 0, none⟩ (.slice (some ⟨g, 0, none⟩) q q)) (H + 1) 111 (.slice (some ⟨g, 0, none⟩) q q) := hR2.set _
    have ho3 := Ho2.out.keep (gr_setCell (r := some (H + 1)) (p := ⟨H + 1, 0, none⟩) (gr_refl _ _) (.inl rfl) (.slice (some ⟨g, 0, none⟩) q q)) (fun _ b off e1 e2 => by cases e1; cases e2; exact hgR rfl)
    have hB3 := HB2.out.setCell (p := ⟨H + 1, 0, none⟩) (Nat.le_succ H) (.slice (some ⟨g, 0, none⟩) q q)
    generalize (W2.setCell ⟨H + 1, 0, none⟩ (.slice (some ⟨g, 0, none⟩) q q)) = W3 at *
    have hcF := cell_kept hR3.cell (grownBy_putObj' W3 D (.deferred none)) (fun r e9 => by cases e9; exact ⟨_, hK3, rfl⟩)
    have hoF := ho3.keep (grownBy_putObj' W3 D (.deferred none)) (fun _ b off e1 e2 => by cases e1; cases e2; exact hgK rfl)
    have hBF : Below H w (W3.putObj D (.deferred none)) := hB3.trans (below_gr (grownBy_putObj' W3 D (.deferred none)) (fun k e9 => by cases e9; omega) (by have := hR3.lt; omega))
    refine ⟨by simp, .inl ⟨_, _, rfl, run_takeDeferred hK3, ?_⟩⟩
    rw [← HH.out]
    refine ⟨.slice (some ⟨g, 0, none⟩) q q, ?_, some ⟨g, 0, none⟩, q, q, rfl, hoF.mono (by omega), Nat.le_refl _, hBF⟩
    simp [results, Tryz.f151, go_sem, hcF]
  case stop =>
    rintro D c pre W hD ⟨q, rfl, hall⟩ ⟨⟨⟨rfl, hlen⟩, hbR⟩, hB⟩ hK
    rw [uptoX_len] at hlen
    have hcnt : cnt s e m = 41 := cnt_of s e m 41 (Nat.le_refl _) (fun j hj => by have := hall j (by omega); rwa [atX_back e m j (by omega) (by omega) e1 (by omega) (by omega)] at this) (.inl rfl)
    have hsf : schedF s e m = [] := by
      have hok : ¬ schedOk s e m = true := by unfold schedOk; rw [hsp, hcnt]; simp
      unfold schedF; rw [if_neg hok]
    have Hsf := hid hsf
    clear hsf hcnt hall
    gi_wp2
    have hcF := cell_kept hbR.cell (grownBy_putObj' W D (.deferred none)) (fun r e9 => by cases e9; exact ⟨_, hK, rfl⟩)
    have hBF : Below H w (W.putObj D (.deferred none)) := hB.trans (below_gr (grownBy_putObj' W D (.deferred none)) (fun k e9 => by cases e9; omega) (by have := hbR.lt; omega))
    refine ⟨by simp, .inl ⟨_, _, rfl, run_takeDeferred hK, ?_⟩⟩
    rw [← HH.out, Hsf.out]
    refine ⟨.slice none 0 0, ?_, none, 0, 0, rfl, Ow.nil _ _ _ _, Nat.le_refl _, hBF⟩
    simp [results, Tryz.f151, go_sem, hcF]

set_option maxRecDepth 100000 in
set_option maxHeartbeats 1000000 in
theorem ScheduleOf_any (s e m : Int) (w : World) (hw : Months w) :
    Calls Tryz.prog 151 #[.int .i64 s, .int .i64 e, .int .i64 m] w fun e' w' => ∃ a n cap, e' = .returned (.slice a n cap) ∧ Ow perL w' w.heap.size a n (schedF s e m) ∧ n ≤ cap ∧ w.grownBy w' none := by
  by_cases hsp : spanB s e m = true
  · refine (callsIn_wide.1 (ScheduleOk_in s e m w hw hsp)).mono ?_
    rintro e' w' ⟨a, n, cap, rfl, ho, hc, hb⟩
    exact ⟨a, n, cap, rfl, ho, hc, gr_below hb (Nat.le_refl _)⟩
  · have Hfin : Hid (schedF s e m = []) := hid (by
      unfold schedF; rw [if_neg]; unfold schedOk
      intro h; simp only [Bool.and_eq_true] at h; exact hsp h.1)
    have hno : withinB s 0 36524 = true → withinB e 0 36524 = true → ¬ e ≤ s → ([1, 3, 6, 12] : List Int).any (fun x => m == x) = true → False := by
      intro a b c d
      have a2 := (within_iff' _ _ _).1 a
      have b2 := (within_iff' _ _ _).1 b
      rw [months_any] at d
      refine hsp ?_
      unfold spanB
      simp only [Bool.and_eq_true, Bool.or_eq_true, decide_eq_true_eq] at d ⊢
      omega
    clear hsp hw
    by_cases d1 : withinB s 0 36524 = true
    · by_cases d2 : withinB e 0 36524 = true
      · by_cases d3 : e ≤ s
        · have d3b : decide (e ≤ s) = true := by simpa using d3
          clear hno
          go_enter Tryz.func151, Tryz.ntmps151
          go_wp2_with fail
          refine (dayValid_any s _).mono ?_
          rintro e' w1 ⟨rfl, rfl⟩
          rw [d1]
          go_wp2_with fail
          refine (dayValid_any e _).mono ?_
          rintro e' w1 ⟨rfl, rfl⟩
          rw [d2]
          go_wp2_with fail
          refine bodyPost_ret (v := .slice none 0 0) (by simp [results, Tryz.results151, go_sem]) rfl ⟨none, 0, 0, rfl, by rw [Hfin.out]; exact Ow.nil _ _ _ _, Nat.le_refl _, ?_⟩
          repeat (first | exact gr_refl _ _ | apply gr_alloc | refine gr_setCell ?_ (.inr (by simp)) _)
        · have d4 : ([1, 3, 6, 12] : List Int).any (fun x => m == x) = false := by
            cases h : ([1, 3, 6, 12] : List Int).any (fun x => m == x) with
            | false => rfl
            | true => exact (hno d1 d2 d3 h).elim
          have D4 := hid d4
          clear hno d4
          go_enter Tryz.func151, Tryz.ntmps151
          go_wp2_with fail
          refine (dayValid_any s _).mono ?_
          rintro e' w1 ⟨rfl, rfl⟩
          rw [d1]
          go_wp2_with fail
          refine (dayValid_any e _).mono ?_
          rintro e' w1 ⟨rfl, rfl⟩
          rw [d2]
          go_wp2_with fail
          have hsl : Sl intL (((w.alloc (.cells #[.int .i64 s] 3)).alloc (.cells #[.slice none 0 0] 111)).alloc (.cells #[.int .i64 1, .int .i64 3, .int .i64 6, .int .i64 12] 3)) (some ⟨w.heap.size + 1 + 1, 0, none⟩) 4 [1, 3, 6, 12] := by
            have := Sl.lit intL ((w.alloc (.cells #[.int .i64 s] 3)).alloc (.cells #[.slice none 0 0] 111)) #[.int .i64 1, .int .i64 3, .int .i64 6, .int .i64 12] 3 4 [1, 3, 6, 12] (by simp [intL]) rfl (by omega)
            simpa using this
          refine (ContainsInts_any (some ⟨w.heap.size + 1 + 1, 0, none⟩) 4 4 [1, 3, 6, 12] m _ hsl).mono ?_
          rintro e' w1 ⟨rfl, rfl⟩
          rw [D4.out]
          clear hsl
          go_wp2_with fail
          refine bodyPost_ret (v := .slice none 0 0) (by simp [results, Tryz.results151, go_sem]) rfl ⟨none, 0, 0, rfl, by rw [Hfin.out]; exact Ow.nil _ _ _ _, Nat.le_refl _, ?_⟩
          repeat (first | exact gr_refl _ _ | apply gr_alloc | refine gr_setCell ?_ (.inr (by simp)) _)
      · have d2 : withinB e 0 36524 = false := by simpa using d2
        clear hno
        go_enter Tryz.func151, Tryz.ntmps151
        go_wp2_with fail
        refine (dayValid_any s _).mono ?_
        rintro e' w1 ⟨rfl, rfl⟩
        rw [d1]
        go_wp2_with fail
        refine (dayValid_any e _).mono ?_
        rintro e' w1 ⟨rfl, rfl⟩
        rw [d2]
        go_wp2_with fail
        refine bodyPost_ret (v := .slice none 0 0) (by simp [results, Tryz.results151, go_sem]) rfl ⟨none, 0, 0, rfl, by rw [Hfin.out]; exact Ow.nil _ _ _ _, Nat.le_refl _, ?_⟩
        repeat (first | exact gr_refl _ _ | apply gr_alloc | refine gr_setCell ?_ (.inr (by simp)) _)
    · have d1 : withinB s 0 36524 = false := by simpa using d1
      clear hno
      go_enter Tryz.func151, Tryz.ntmps151
      go_wp2_with fail
      refine (dayValid_any s _).mono ?_
      rintro e' w1 ⟨rfl, rfl⟩
      rw [d1]
      go_wp2_with fail
      refine bodyPost_ret (v := .slice none 0 0) (by simp [results, Tryz.results151, go_sem]) rfl ⟨none, 0, 0, rfl, by rw [Hfin.out]; exact Ow.nil _ _ _ _, Nat.le_refl _, ?_⟩
      repeat (first | exact gr_refl _ _ | apply gr_alloc | refine gr_setCell ?_ (.inr (by simp)) _)

end Go.Proofs.YtielicmjdhmcjaaGreatDoor

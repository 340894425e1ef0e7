/- The program's ScheduleOf, walked. -/
import Derived.RangeFuncNested
import Derived.RangeFuncBound
import Derived.RangeFuncCalls
import Derived.RangeFuncLeaves
import Derived.RangeFuncBox
import Derived.Shelf.Abstract
import Derived.Shelf.RegionOpen
import Derived.WalkKit
import Derived.OwnWalkIn
import Derived.TacticsInMore
import Derived.LoopNIn
import Derived.LoopIn
import Derived.Test.YtpomlbloeejbjaaDoorRows
import Derived.Test.YtpomlbloeejbjaaDoorBase
import Derived.Test.YtpomlbloeejbjaaDoorInts
import Derived.Test.YtpomlbloeejbjaaDoorSched
import Derived.Test.YtpomlbloeejbjaaDoorMonthWalk
import Derived.Test.YtpomlbloeejbjaaDoorEnds
import Derived.Test.YtpomlbloeejbjaaDoorPers
namespace Go.Proofs.YtpomlbloeejbjaaDoor
open Go.RowKit Go.Shelf
attribute [local go_sem] Oper.semAt_some

set_option maxRecDepth 100000 in
set_option maxHeartbeats 400000 in
theorem IndexInts_any (a : Option Addr) (n cap : Nat) (xs : List Int) (v : Int) (w : World) (hs : Sl intL w a n xs) :
    Calls Tryd.prog 92 #[.slice a n cap, .int .i64 v] w fun e w' => ∃ i : Int, e = .returned (.int .i64 i) ∧ decide (0 ≤ i) = xs.any (fun x => v == x) ∧ w = w' := by
  have hbig := hs.big
  unfold maxLen at hbig
  have Hs := hid hs; clear hs
  go_enter Tryd.func92, Tryd.ntmps92
  go_wp2_with fail
  go_loop [8] (fun i => ∃ k : Nat, k ≤ n ∧ i = .int .i64 k ∧ (xs.take k).any (fun x => v == x) = false) (fun i => n - (intOf i).toNat)
  case atStart => exact ⟨0, by omega, rfl, rfl⟩
  case round =>
    obtain ⟨k, hk, rfl, hall⟩ := hrel
    have Hall := hid hall; clear hall
    by_cases hlt : k < n
    · obtain ⟨b, off, x, rfl, hxk, h1⟩ := int_at Hs.out k hlt
      have Hxk := hid hxk; clear hxk
      have hi0 : (0 : Int) ≤ k := by omega
      have hi1 : (k : Int) < n := by omega
      by_cases hx : v = x
      · have hb : (v == x) = true := by simpa using hx
        have Hb := hid hb
        clear hx
        go_wp2_with fail
        go_ret
        refine ⟨k, rfl, ?_, rfl⟩
        rw [any_true _ _ (k + 1)]
        · simp
        · rw [take_any _ _ _ _ Hxk.out, Hall.out, Bool.false_or]; exact Hb.out
      · have hb : (v == x) = false := by simpa using hx
        have Hb := hid hb
        clear hx
        go_wp2_with fail
        go_round
        case rel => exact ⟨k+1, by omega, by go_num, by rw [take_any _ _ _ _ Hxk.out, Hall.out, Bool.false_or]; exact Hb.out⟩
        case measure => simp [intOf]; omega
    · go_wp2
      go_ret
      obtain rfl : k = n := by omega
      exact ⟨-1, rfl, by rw [take_len _ _ Hs.out.len] at Hall; rw [Hall.out]; rfl, rfl⟩

theorem ContainsInts_any (a : Option Addr) (n cap : Nat) (xs : List Int) (v : Int) (w : World) (hs : Sl intL w a n xs) :
    Calls Tryd.prog 81 #[.slice a n cap, .int .i64 v] w fun e w' => e = .returned (.bool (xs.any (fun x => v == x))) ∧ w = w' := by
  go_enter Tryd.func81, Tryd.ntmps81
  go_wp2_with fail
  refine (IndexInts_any a n cap xs v w hs).mono ?_
  rintro e w' ⟨i, rfl, hi, rfl⟩
  have Hi := hid hi; clear hi
  go_wp2
  go_ret
  exact ⟨ret_bool Hi.out, rfl⟩

theorem ends_in (n : Nat) (s e m : Int) (w : World) :
    CallsIn Fence.wide n Tryd.prog 82 #[.int .i64 s, .int .i64 e, .int .i64 m] w fun e' w' => e' = .returned (.func (.func 93) #[] #[.pointer (some ⟨w.heap.size + 1, 0, none⟩), .pointer (some ⟨w.heap.size, 0, none⟩), .pointer (some ⟨w.heap.size + 2, 0, none⟩)]) ∧
      w' = ((w.alloc (.cells #[.int .i64 s] 3)).alloc (.cells #[.int .i64 e] 3)).alloc (.cells #[.int .i64 m] 3) := by
  refine callsIn_of_wp Tryd.func82 rfl trivial ?_ rfl
  simp only [Tryd.ntmps82, List.size_toArray, List.length_cons, List.length_nil, Nat.reduceAdd, Nat.reduceSub, Array.replicate_succ, Array.replicate_zero, List.push_toArray, List.append_toArray, List.nil_append, List.cons_append]
  gi_wp2
  go_ret
  exact ⟨rfl, rfl⟩

def toP (s : Int) (x : Int × Int) : Per := ⟨max x.2 s, x.1, decide (s ≤ x.2)⟩
theorem infoPer : (Tryd.prog.info? 94).map (fun i => (i.zero, i.size, i.bytes)) = some (some (.agg #[.int .i64 0, .int .i64 0, .bool false]), 3, 24) := by kernel_rfl

theorem months_any (m : Int) : ([1, 3, 6, 12] : List Int).any (fun x => m == x) = (decide (m = 1) || decide (m = 3) || decide (m = 6) || decide (m = 12)) := by
  simp [Bool.or_assoc]; rfl

theorem atX_back (e m : Int) (k : Nat) (hk : k ≤ 41) (h0 : 0 ≤ e) (h1 : e ≤ 36524) (_hm : 1 ≤ m) (hm12 : m ≤ 12) : atX e m k = backA e m k := by
  by_cases hk0 : k = 0
  · subst hk0; rw [back_zero e m h0 h1]; unfold atX; rw [if_pos rfl]
  · have h2 : (k : Int) * m ≤ 41 * 12 := by
      have a : (k : Int) * m ≤ k * 12 := Int.mul_le_mul_of_nonneg_left hm12 (by omega)
      omega
    unfold atX backA; rw [if_neg hk0, if_pos (by omega)]

theorem boxed_own {β : Type} (B : Nat) (t : TypeId) (v : Value) : Own (fun (_ : β) W => Boxed W B t v) := fun _ X Y row hv hg hrow =>
  hv.kept hg (fun e' => by
    obtain ⟨o, ho, hc⟩ := hrow B e'.symm
    rw [show X.heap[B]? = _ from hv] at ho; cases ho; cases hc)

theorem kp_append {bl : List Nat} {W w1 : World} {V : Nat} {v v' : Value} {tmp : Obj} (hbl : ∀ b ∈ bl, b ≠ V ∧ some b ≠ v.ownBlock) (hgrow : (W.alloc tmp).grownBy w1 v.ownBlock) : KpX bl W (w1.setCell ⟨V, 0, none⟩ v') :=
  ((KpX.of_gr (gr_alloc (gr0 W) tmp) (fun _ h => by cases h)).trans (KpX.of_gr hgrow (fun b e hb => (hbl b hb).2 e.symm))).trans (KpX.of_gr (gr_setCell (r := some V) (gr_refl _ _) (.inl rfl) _) (fun b e hb => by cases e; exact (hbl V hb).1 rfl))

theorem toP_list (s e m : Int) (q : Nat) (hq : q ≤ 40) (h0 : 0 ≤ e) (h1 : e ≤ 36524) (hm : 1 ≤ m) (hm12 : m ≤ 12) : (uptoX e m q).map (toP s) = (List.range q).map (perOf s e m) := by
  unfold uptoX
  rw [List.map_map]
  refine List.map_congr_left (fun k hk => ?_)
  have hk2 : k < q := List.mem_range.1 hk
  simp only [Function.comp, pairX, toP, perOf, atX_back e m k (by omega) h0 h1 hm hm12, atX_back e m (k + 1) (by omega) h0 h1 hm hm12]

set_option maxRecDepth 100000 in
set_option maxHeartbeats 4000000 in
theorem ScheduleOk_in (s e m : Int) (w : World) (hw : Months w) (hsp : spanB s e m = true) :
    CallsIn Fence.wide 10 Tryd.prog 72 #[.int .i64 s, .int .i64 e, .int .i64 m] w fun e' w' => ∃ a n cap, e' = .returned (.slice a n cap) ∧ Ow perL w' w.heap.size a n (schedF s e m) ∧ n ≤ cap ∧ Below w.heap.size w w' := by
  obtain ⟨i0, hi, hz0, hz1, hz2⟩ := info_parts infoPer
  obtain ⟨s0, se, e1, mm⟩ := span_facts hsp
  have d1 : withinB s 0 36524 = true := (within_iff' _ _ _).2 (by omega)
  have d2 : withinB e 0 36524 = true := (within_iff' _ _ _).2 (by omega)
  have d3 : decide (e ≤ s) = false := by simp; omega
  have d4 : ([1, 3, 6, 12] : List Int).any (fun x => m == x) = true := by rw [months_any]; simp; omega
  have D4 := hid d4; clear d4
  have Hw := hid hw; clear hw
  refine callsIn_of_wp_marks Tryd.func72 rfl trivial ?_ rfl
  simp only [Tryd.ntmps72, List.size_toArray, List.length_cons, List.length_nil, Nat.reduceAdd, Nat.reduceSub, Array.replicate_succ, Array.replicate_zero, List.push_toArray, List.append_toArray, List.nil_append, List.cons_append]
  gi_wp2
  refine ⟨trivial, (callsIn_wide.2 (dayValid_any s _)).mono ?_⟩
  rintro e' w1 ⟨rfl, rfl⟩
  rw [d1]
  gi_wp2
  refine ⟨trivial, (callsIn_wide.2 (dayValid_any e _)).mono ?_⟩
  rintro e' w1 ⟨rfl, rfl⟩
  rw [d2]
  gi_wp2
  have hsl : Sl intL (((w.alloc (.cells #[.int .i64 s] 3)).alloc (.cells #[.slice none 0 0] 67)).alloc (.cells #[.int .i64 1, .int .i64 3, .int .i64 6, .int .i64 12] 3)) (some ⟨w.heap.size + 1 + 1, 0, none⟩) 4 [1, 3, 6, 12] := by
    have := Sl.lit intL ((w.alloc (.cells #[.int .i64 s] 3)).alloc (.cells #[.slice none 0 0] 67)) #[.int .i64 1, .int .i64 3, .int .i64 6, .int .i64 12] 3 4 [1, 3, 6, 12] (by simp [intL]) rfl (by omega)
    simpa using this
  refine ⟨trivial, (callsIn_wide.2 (ContainsInts_any (some ⟨w.heap.size + 1 + 1, 0, none⟩) 4 4 [1, 3, 6, 12] m _ hsl)).mono ?_⟩
  rintro e' w1 ⟨rfl, rfl⟩
  rw [D4.out]
  obtain ⟨Z, hZ, hmk⟩ : ∃ Z : Array Value, Z.size = 40 * 3 ∧ ∀ wx : World, (Instr.makeSlice 67 (.int .i64 0) (.int .i64 40)).run Tryd.prog wx = .ok (.slice (some ⟨wx.heap.size, 0, none⟩) 0 40) (wx.alloc (.cells Z 94)) := by
    refine ⟨madeCells (Value.cells (.agg #[.int .i64 0, .int .i64 0, .bool false])) (40 * i0.size), by rw [size_madeCells, hz1], fun wx => ?_⟩
    have := run_make (P := Tryd.prog) wx 67 94 i0 _ Tryd.underlying67 hi hz0 .i64 .i64 0 40 (by omega) (by omega) (by rw [hz2]; omega) (by omega)
    simpa using this
  gi_wp2
  refine ⟨trivial, (ends_in _ s e m _).mono ?_⟩
  rintro e' w1 ⟨rfl, rfl⟩
  gi_wp2
  have nf : ∀ k : Nat, w.heap.size + 1 + k = w.heap.size + (k + 1) := fun k => by omega
  rw [show w.heap.size + 1 + 1 + 1 + 1 + 1 + 2 = w.heap.size + 7 by omega, show w.heap.size + 1 + 1 + 1 + 1 + 1 + 1 = w.heap.size + 6 by omega, show w.heap.size + 1 + 1 + 1 + 1 + 1 = w.heap.size + 5 by omega, show w.heap.size + 1 + 1 + 1 + 1 = w.heap.size + 4 by omega, show w.heap.size + 1 + 1 + 1 = w.heap.size + 3 by omega]
  clear nf
  obtain ⟨W0, hW0⟩ : ∃ W0, W0 = ((((((((w.alloc (.cells #[.int .i64 s] 3)).alloc (.cells #[.slice none 0 0] 67)).alloc (.cells #[.int .i64 1, .int .i64 3, .int .i64 6, .int .i64 12] 3)).alloc (.cells Z 94)).alloc (.cells #[.slice (some ⟨w.heap.size + 3, 0, none⟩) 0 40] 67)).alloc (.cells #[.int .i64 s] 3)).alloc (.cells #[.int .i64 e] 3)).alloc (.cells #[.int .i64 m] 3)) := ⟨_, rfl⟩
  rw [← hW0]
  have hsz : W0.heap.size = w.heap.size + 8 := by rw [hW0]; simp
  have bS : Boxed W0 w.heap.size 3 (.int .i64 s) := by rw [hW0]; exact (((((((Boxed.new w _ _).alloc _).alloc _).alloc _).alloc _).alloc _).alloc _).alloc _
  have bR : Boxed W0 (w.heap.size + 1) 67 (.slice none 0 0) := by
    have := ((((((Boxed.new (w.alloc (.cells #[.int .i64 s] 3)) 67 (.slice none 0 0)).alloc (.cells #[.int .i64 1, .int .i64 3, .int .i64 6, .int .i64 12] 3)).alloc (.cells Z 94)).alloc (.cells #[.slice (some ⟨w.heap.size + 3, 0, none⟩) 0 40] 67)).alloc (.cells #[.int .i64 s] 3)).alloc (.cells #[.int .i64 e] 3)).alloc (.cells #[.int .i64 m] 3)
    rw [World.size_alloc] at this
    rw [hW0]; exact this
  have hrow0 : W0.ownsRow (w.heap.size + 3) 94 3 (.slice (some ⟨w.heap.size + 3, 0, none⟩) 0 40) 0 [] := by
    have := ((((World.ownsRow_made (base := w.heap.size + 3) (size := 3) (e := 94) (((w.alloc (.cells #[.int .i64 s] 3)).alloc (.cells #[.slice none 0 0] 67)).alloc (.cells #[.int .i64 1, .int .i64 3, .int .i64 6, .int .i64 12] 3)) Z 40 (by simp) (by unfold maxLen; omega) hZ).alloc (.cells #[.slice (some ⟨w.heap.size + 3, 0, none⟩) 0 40] 67)).alloc (.cells #[.int .i64 s] 3)).alloc (.cells #[.int .i64 e] 3)).alloc (.cells #[.int .i64 m] 3)
    rw [World.size_alloc, World.size_alloc, World.size_alloc] at this
    rw [hW0]; exact this
  have bV : Boxed W0 (w.heap.size + 4) 67 (.slice (some ⟨w.heap.size + 3, 0, none⟩) 0 40) := by
    have := (((Boxed.new ((((w.alloc (.cells #[.int .i64 s] 3)).alloc (.cells #[.slice none 0 0] 67)).alloc (.cells #[.int .i64 1, .int .i64 3, .int .i64 6, .int .i64 12] 3)).alloc (.cells Z 94)) 67 (.slice (some ⟨w.heap.size + 3, 0, none⟩) 0 40)).alloc (.cells #[.int .i64 s] 3)).alloc (.cells #[.int .i64 e] 3)).alloc (.cells #[.int .i64 m] 3)
    rw [World.size_alloc, World.size_alloc, World.size_alloc, World.size_alloc] at this
    rw [hW0]; exact this
  have bs : Boxed W0 (w.heap.size + 5) 3 (.int .i64 s) := by
    have := ((Boxed.new (((((w.alloc (.cells #[.int .i64 s] 3)).alloc (.cells #[.slice none 0 0] 67)).alloc (.cells #[.int .i64 1, .int .i64 3, .int .i64 6, .int .i64 12] 3)).alloc (.cells Z 94)).alloc (.cells #[.slice (some ⟨w.heap.size + 3, 0, none⟩) 0 40] 67)) 3 (.int .i64 s)).alloc (.cells #[.int .i64 e] 3)).alloc (.cells #[.int .i64 m] 3)
    rw [World.size_alloc, World.size_alloc, World.size_alloc, World.size_alloc, World.size_alloc] at this
    rw [hW0]; exact this
  have be : Boxed W0 (w.heap.size + 6) 3 (.int .i64 e) := by
    have := (Boxed.new ((((((w.alloc (.cells #[.int .i64 s] 3)).alloc (.cells #[.slice none 0 0] 67)).alloc (.cells #[.int .i64 1, .int .i64 3, .int .i64 6, .int .i64 12] 3)).alloc (.cells Z 94)).alloc (.cells #[.slice (some ⟨w.heap.size + 3, 0, none⟩) 0 40] 67)).alloc (.cells #[.int .i64 s] 3)) 3 (.int .i64 e)).alloc (.cells #[.int .i64 m] 3)
    rw [World.size_alloc, World.size_alloc, World.size_alloc, World.size_alloc, World.size_alloc, World.size_alloc] at this
    rw [hW0]; exact this
  have bm : Boxed W0 (w.heap.size + 7) 3 (.int .i64 m) := by
    have := (Boxed.new (((((((w.alloc (.cells #[.int .i64 s] 3)).alloc (.cells #[.slice none 0 0] 67)).alloc (.cells #[.int .i64 1, .int .i64 3, .int .i64 6, .int .i64 12] 3)).alloc (.cells Z 94)).alloc (.cells #[.slice (some ⟨w.heap.size + 3, 0, none⟩) 0 40] 67)).alloc (.cells #[.int .i64 s] 3)).alloc (.cells #[.int .i64 e] 3)) 3 (.int .i64 m))
    rw [World.size_alloc, World.size_alloc, World.size_alloc, World.size_alloc, World.size_alloc, World.size_alloc, World.size_alloc] at this
    rw [hW0]; exact this
  have hB0 : Below w.heap.size w W0 := by
    rw [hW0]; exact (((((((((Below.refl _ w).alloc (Nat.le_refl _) _).alloc (by simp) _).alloc (by simp; omega) _).alloc (by simp; omega) _).alloc (by simp; omega) _).alloc (by simp; omega) _).alloc (by simp; omega) _).alloc (by simp; omega) _)
  have HmW := hid (Hw.out.keep0 (gr_below hB0 (Nat.le_refl _)))
  have hw0 : 0 < w.heap.size := block_lt (Hw.out.cell 0 31 rfl) |> fun h => by simpa using h
  clear hW0 hZ hsl hmk
  obtain ⟨H, hH⟩ : ∃ H, H = w.heap.size := ⟨_, rfl⟩
  rw [← hH] at bS bR hrow0 bV bs be bm hB0 hsz hw0 ⊢
  have hH1 : H ≤ w.heap.size := by omega
  have hH2 : w.heap.size ≤ H := by omega
  have HH := hid hH; clear hH
  refine wpIn_rangeFunc_ownG rfl (by omega) (gf := 93) (lb := #[.pointer (some ⟨H + 6, 0, none⟩), .pointer (some ⟨H + 5, 0, none⟩), .pointer (some ⟨H + 7, 0, none⟩)]) rfl trivial (enters_of Tryd.func93 (by kernel_rfl) rfl)
    (encs := fun x : Int × Int => #[.int .i64 x.1, .int .i64 x.2]) (Kp := KpX [H + 6, H + 5, H + 7, 0]) (N := 40000) (w0 := W0)
    (S := fun ys => ∃ q, ys = uptoX e m q ∧ (∀ j, j < q → s < atX e m j) ∧ atX e m q ≤ s) (Sp := fun pre => ∃ q, pre = uptoX e m (q + 1) ∧ (∀ j, j < q + 1 → s < atX e m j))
    (fun l J Jx W hW hJ _ hY h0 => ends1_in 9 (by omega) l (H + 6) (H + 5) (H + 7) 40000 s e m [H + 6, H + 5, H + 7, 0] (by simp) s0 (by omega) e1 (by omega) (by omega) (by omega) J Jx (fun p A B hp hg => hJ p A B none hp hg (fun _ e => by cases e)) hY W
      (hW.block _ (by omega) |>.trans be) (hW.block _ (by omega) |>.trans bs) (hW.block _ (by omega) |>.trans bm) (HmW.out.keep0 (gr_below hW (Nat.le_refl _))) h0)
    (fun h k => h.trans k) (fun W l o o' _ hl hc _ => KpX.put W l o o' hl hc) (Below.refl _ _) (fun _ => rfl)
    (fun pre W => ((∃ v, Boxed W (H + 4) 67 v ∧ W.ownsRow (H + 3) 94 3 v pre.length ((pre.map (toP s)).flatMap perL.cells) ∧ ((∃ g cap, v = .slice (some ⟨g, 0, none⟩) pre.length cap) ∧ pre.length ≤ 40)) ∧ Boxed W H 3 (.int .i64 s) ∧ Boxed W (H + 1) 67 (.slice none 0 0) ∧ Boxed W (H + 6) 3 (.int .i64 e) ∧ Boxed W (H + 5) 3 (.int .i64 s) ∧ Boxed W (H + 7) 3 (.int .i64 m)) ∧ Below H w W)
    (fun c pre W => ((c = .ret ∧ pre.length = 41) ∧ Boxed W (H + 1) 67 (.slice none 0 0)) ∧ Below H w W)
    (OwnFrom.and (Own.from (fun p A B row hs hg hr => ⟨holdsRow_own (H + 3) (H + 4) 67 94 3 (fun pre : List (Int × Int) => pre.length) (fun pre => (pre.map (toP s)).flatMap perL.cells) (fun pre v => (∃ g cap, v = .slice (some ⟨g, 0, none⟩) pre.length cap) ∧ pre.length ≤ 40) p A B row hs.1 hg hr,
        boxed_own _ _ _ p A B row hs.2.1 hg hr, boxed_own _ _ _ p A B row hs.2.2.1 hg hr, boxed_own _ _ _ p A B row hs.2.2.2.1 hg hr, boxed_own _ _ _ p A B row hs.2.2.2.2.1 hg hr, boxed_own _ _ _ p A B row hs.2.2.2.2.2 hg hr⟩) _) (ownFrom_below (by omega) (by omega)))
    (fun c => OwnFrom.and (Own.from (fun p A B row hs hg hr => ⟨hs.1, boxed_own _ _ _ p A B row hs.2 hg hr⟩) _) (ownFrom_below (by omega) (by omega)))
    ⟨⟨⟨_, bV, by simpa using hrow0, ⟨⟨_, _, rfl⟩, by simp⟩⟩, bS, bR, be, bs, bm⟩, hB0⟩
    (fun x => { tmps := #[.int .i64 s, .int .i64 e, .int .i64 m, .pointer (some ⟨H, 0, none⟩), undef, undef, .pointer (some ⟨H + 1, 0, none⟩), .pointer (some ⟨H + 4, 0, none⟩), .int .i64 x.1, .int .i64 x.2, .int .i64 s, .bool true, .bool false, .bool false, .int .i64 e, .bool true, .bool false, .bool false, .bool false, .int .i64 e, .int .i64 s, .bool false, .bool false, .bool false, .slice (some ⟨H + 1 + 1, 0, none⟩) 4 4, .int .i64 m, .bool true, .bool false, .bool false, .slice (some ⟨H + 3, 0, none⟩) 0 40, .int .i64 s, .int .i64 e, .int .i64 m, .func (.func 93) #[] #[.pointer (some ⟨H + 6, 0, none⟩), .pointer (some ⟨H + 5, 0, none⟩), .pointer (some ⟨H + 7, 0, none⟩)], .int .i64 x.1, .int .i64 x.2, undef, undef, undef, undef, undef, undef, undef, undef, undef, undef, undef, undef, undef, undef, undef, undef, undef, undef], defers := [] })
    ?assign ?body ?done ?stop
  case assign =>
    intro l x W K hK
    gi_wp2
    exact hK
  case body =>
    rintro l pre x W ⟨⟨⟨v, hv, hrow, ⟨g, cap, rfl⟩, hle⟩, hbS, hbR, hbe, hbs, hbm⟩, hB⟩ _
    have cv := hv.cell
    have cS := hbS.cell
    have cR := hbR.cell
    have fR := hbR.frozen
    have hsW := hB.size
    have hll : (pre ++ [x]).length = pre.length + 1 := by simp
    have hgB : H + 3 ≤ g := (hrow.lt g rfl).1
    have hbl : ∀ b ∈ [H + 6, H + 5, H + 7, 0], b ≠ H + 4 ∧ some b ≠ (Value.slice (some ⟨g, 0, none⟩) pre.length cap).ownBlock := by
      intro b hb
      simp only [List.mem_cons, List.mem_nil_iff, or_false] at hb
      rcases hb with rfl | rfl | rfl | rfl
      · exact ⟨by omega, hbe.not_row (by decide) hrow⟩
      · exact ⟨by omega, hbs.not_row (by decide) hrow⟩
      · exact ⟨by omega, hbm.not_row (by decide) hrow⟩
      · exact ⟨by omega, by simp [Value.ownBlock]; omega⟩
    have Hbl := hid hbl; have Hll := hid hll
    clear hbl hll
    by_cases h40 : pre.length = 40
    · have hb : ((pre.length : Int) == 40) = true := by rw [h40]; rfl
      have H40 := hid h40; clear h40
      have Hrow := hid hrow; have HB := hid hB
      clear hrow hB
      gi_wp2
      exact ⟨(KeepsOthers.setCell _ _ _).from _, ⟨⟨rfl, by rw [Hll.out, H40.out]⟩, hbR.set _⟩, HB.out.setCell (p := ⟨H + 1, 0, none⟩) (Nat.le_succ H) _⟩
    · have hb : ((pre.length : Int) == 40) = false := by simp; omega
      have hWs : H + 3 ≤ W.heap.size := by have := hv.lt; omega
      have hle3 : H + 3 ≤ H + 4 := by omega
      by_cases hmx : s ≤ x.2
      · have hP : toP s x = ⟨x.2, x.1, true⟩ := by unfold toP; rw [decide_eq_true hmx, show max x.2 s = x.2 by omega]
        have HP := hid hP; clear hP
        have hmx2 : ¬ x.2 < s := by omega
        gi_wp2_with (gi_at_builtin; refine wpListIn_append_own _ rfl _ _ 67 rfl (H + 3) 94 i0 _ 3 24 Tryd.underlying67 hi hz0 hz1 hz2 rfl (by decide) _ _ _ rfl (hrow.alloc _) ⟨W.heap.size, 0, none⟩ 1 1 [.int .i64 x.2, .int .i64 x.1, .bool true] rfl rfl (cells_new W _ _ _ rfl) (by simp [Value.oneCell']) (by unfold maxLen; omega) (by omega) (by simp; omega) ?_; intro v' w1 hown' hgrow _; obtain ⟨g', cap', rfl⟩ := ownsRow_succ hown'; obtain ⟨hv1, hv2, hr2, hk2, hb2⟩ := hv.appended (by decide) hrow hWs hle3 hown' hgrow; have hc1 := hv1.cell; have hf1 := hv1.frozen; have hkk : KpX [H + 6, H + 5, H + 7, 0] W (w1.setCell ⟨H + 4, 0, none⟩ (.slice (some ⟨g', 0, none⟩) (pre.length + 1) cap')) := kp_append Hbl.out hgrow; have hx := fun (B : Nat) (u : Value) (hu : Boxed W B 3 u) (h4 : B ≠ H + 4) => (Boxed.kept (hu.alloc _) hgrow (Boxed.not_row hu (by decide) hrow)).kept (gr_setCell (r := some (H + 4)) (p := ⟨H + 4, 0, none⟩) (gr_refl w1 _) (.inl rfl) (.slice (some ⟨g', 0, none⟩) (pre.length + 1) cap')) (fun e => h4 (Option.some.inj e)); have hxR := (Boxed.kept (hbR.alloc _) hgrow (Boxed.not_row hbR (by decide) hrow)).kept (gr_setCell (r := some (H + 4)) (p := ⟨H + 4, 0, none⟩) (gr_refl w1 _) (.inl rfl) (.slice (some ⟨g', 0, none⟩) (pre.length + 1) cap')) (by simp))
        refine ⟨hk2.from _, hkk, ⟨⟨⟨_, hv2, ?_, ⟨⟨_, _, by rw [Hll.out]⟩, by rw [Hll.out]; omega⟩⟩, hx _ _ hbS (by omega), hxR, hx _ _ hbe (by omega), hx _ _ hbs (by omega), hx _ _ hbm (by omega)⟩, hB.trans (hb2.mono (by omega))⟩⟩
        rw [Hll.out, List.map_append, List.flatMap_append, show List.map (toP s) [x] = [toP s x] from rfl, HP.out]
        exact hr2
      · have hP : toP s x = ⟨s, x.1, false⟩ := by unfold toP; rw [decide_eq_false hmx, show max x.2 s = s by omega]
        have HP := hid hP; clear hP
        have hmx2 : x.2 < s := by omega
        gi_wp2_with (gi_at_builtin; refine wpListIn_append_own _ rfl _ _ 67 rfl (H + 3) 94 i0 _ 3 24 Tryd.underlying67 hi hz0 hz1 hz2 rfl (by decide) _ _ _ rfl (hrow.alloc _) ⟨W.heap.size, 0, none⟩ 1 1 [.int .i64 s, .int .i64 x.1, .bool false] rfl rfl (cells_new W _ _ _ rfl) (by simp [Value.oneCell']) (by unfold maxLen; omega) (by omega) (by simp; omega) ?_; intro v' w1 hown' hgrow _; obtain ⟨g', cap', rfl⟩ := ownsRow_succ hown'; obtain ⟨hv1, hv2, hr2, hk2, hb2⟩ := hv.appended (by decide) hrow hWs hle3 hown' hgrow; have hc1 := hv1.cell; have hf1 := hv1.frozen; have hkk : KpX [H + 6, H + 5, H + 7, 0] W (w1.setCell ⟨H + 4, 0, none⟩ (.slice (some ⟨g', 0, none⟩) (pre.length + 1) cap')) := kp_append Hbl.out hgrow; have hx := fun (B : Nat) (u : Value) (hu : Boxed W B 3 u) (h4 : B ≠ H + 4) => (Boxed.kept (hu.alloc _) hgrow (Boxed.not_row hu (by decide) hrow)).kept (gr_setCell (r := some (H + 4)) (p := ⟨H + 4, 0, none⟩) (gr_refl w1 _) (.inl rfl) (.slice (some ⟨g', 0, none⟩) (pre.length + 1) cap')) (fun e => h4 (Option.some.inj e)); have hxR := (Boxed.kept (hbR.alloc _) hgrow (Boxed.not_row hbR (by decide) hrow)).kept (gr_setCell (r := some (H + 4)) (p := ⟨H + 4, 0, none⟩) (gr_refl w1 _) (.inl rfl) (.slice (some ⟨g', 0, none⟩) (pre.length + 1) cap')) (by simp))
        refine ⟨hk2.from _, hkk, ⟨⟨⟨_, hv2, ?_, ⟨⟨_, _, by rw [Hll.out]⟩, by rw [Hll.out]; omega⟩⟩, hx _ _ hbS (by omega), hxR, hx _ _ hbe (by omega), hx _ _ hbs (by omega), hx _ _ hbm (by omega)⟩, hB.trans (hb2.mono (by omega))⟩⟩
        rw [Hll.out, List.map_append, List.flatMap_append, show List.map (toP s) [x] = [toP s x] from rfl, HP.out]
        exact hr2
  case done =>
    rintro D ys W hD ⟨q, rfl, hall, hend⟩ ⟨⟨⟨v, hv, hrow, ⟨g, cap, rfl⟩, hle⟩, hbS, hbR, hbe, hbs, hbm⟩, hB⟩ hK
    rw [uptoX_len] at hrow hle hv
    have hcnt : cnt s e m = q := cnt_of s e m q (by omega) (fun j hj => by have := hall j hj; rwa [atX_back e m j (by omega) (by omega) e1 (by omega) (by omega)] at this) (.inr (by rwa [atX_back e m q (by omega) (by omega) e1 (by omega) (by omega)] at hend))
    have hq1 : 1 ≤ q := by rw [← hcnt]; exact cnt_pos hsp
    have Hsf : Hid (((uptoX e m q).map (toP s)).reverse = schedF s e m) := hid (by
      have hok : schedOk s e m = true := by unfold schedOk; rw [hsp, hcnt]; simpa using hle
      unfold schedF
      rw [if_pos hok, toP_list s e m q hle (by omega) e1 (by omega) (by omega)]
      unfold schedL
      rw [hcnt])
    have how : Ow perL W (H + 3) (some ⟨g, 0, none⟩) q ((uptoX e m q).map (toP s)) := Ow.of_own hrow (by rw [List.length_map, uptoX_len]) (by unfold maxLen; omega)
    have hcap : q ≤ cap ∧ cap ≤ maxLen := by
      rcases hrow.2 with ⟨e9, _⟩ | ⟨g9, cap9, cur, e9, _, _, h7, h8, _⟩
      · cases e9
      · cases e9; exact ⟨h7, h8⟩
    have hgV : g ≠ H + 4 := fun e9 => hv.not_row (by decide) hrow (by rw [e9]; rfl)
    have hgR : g ≠ H + 1 := fun e9 => hbR.not_row (by decide) hrow (by rw [e9]; rfl)
    have hgK : g ≠ D := fun e9 => by
      obtain ⟨b, o, e3, _, _, hf, hc⟩ := how.mem (by omega)
      rcases hrow.2 with ⟨e9, _⟩ | ⟨g9, cap9, cur, e4, _, h6, _⟩
      · cases e9
      · cases e4; rw [e9, hK] at h6; cases h6
    have hgB : H + 3 ≤ g := (hrow.lt g rfl).1
    have cv := hv.cell
    have How := hid how; have HB := hid hB; have Hall := hid hall; have Hrow := hid hrow
    have HK := hid hK
    obtain ⟨hcap1, hcap2⟩ := hcap
    clear how hB hall hrow hK hend hcnt
    gi_wp2
    refine ⟨trivial, (callsIn_wide.2 (ReversePers_any g (H + 3) q cap _ W How.out hq1 (by omega))).mono ?_⟩
    rintro e' W2 ⟨rfl, ho2, hg2⟩
    have hv2 := hv.kept hg2 (fun e9 => hgV (Option.some.inj e9).symm)
    have hR2 := hbR.kept hg2 (fun e9 => hgR (Option.some.inj e9).symm)
    have hK2 : W2.heap[D]? = some (.deferred (some [])) := blk_keep HK.out hg2 (fun k e9 => by cases e9; exact hgK)
    have hB2 : Below H w W2 := HB.out.trans (below_gr hg2 (fun k e9 => by cases e9; omega) (by have := hv.lt; omega))
    rw [Hsf.out] at ho2
    have Ho2 := hid ho2; have HK2 := hid hK2; have HB2 := hid hB2
    have cv2 := hv2.cell
    have cR := hR2.cell
    have fR := hR2.frozen
    clear ho2 hK2 hB2 hg2 cv
    gi_wp2
    refine ⟨trivial, (callsIn_wide.2 (ClipPers_any (some ⟨g, 0, none⟩) q cap W2 hcap1 hcap2 rfl)).mono ?_⟩
    rintro e' W3 ⟨rfl, rfl⟩
    gi_wp2
    have hD8 : H + 8 ≤ D := by omega
    have hK3 : (W2.setCell ⟨H + 1, 0, none⟩ (.slice (some ⟨g, 0, none⟩) q q)).heap[D]? = some (.deferred (some [])) := blk_set_other HK2.out _ (by simp; omega) _
    have hR3 : Boxed (W2.setCell ⟨H + 1, 0, none⟩ (.slice (some ⟨g, 0, none⟩) q q)) (H + 1) 67 (.slice (some ⟨g, 0, none⟩) q q) := hR2.set _
    have ho3 := Ho2.out.keep (gr_setCell (r := some (H + 1)) (p := ⟨H + 1, 0, none⟩) (gr_refl _ _) (.inl rfl) (.slice (some ⟨g, 0, none⟩) q q)) (fun _ b off e1 e2 => by cases e1; cases e2; exact hgR rfl)
    have hB3 := HB2.out.setCell (p := ⟨H + 1, 0, none⟩) (Nat.le_succ H) (.slice (some ⟨g, 0, none⟩) q q)
    generalize (W2.setCell ⟨H + 1, 0, none⟩ (.slice (some ⟨g, 0, none⟩) q q)) = W3 at *
    have hcF := cell_kept hR3.cell (grownBy_putObj' W3 D (.deferred none)) (fun r e9 => by cases e9; exact ⟨_, hK3, rfl⟩)
    have hoF := ho3.keep (grownBy_putObj' W3 D (.deferred none)) (fun _ b off e1 e2 => by cases e1; cases e2; exact hgK rfl)
    have hBF : Below H w (W3.putObj D (.deferred none)) := hB3.trans (below_gr (grownBy_putObj' W3 D (.deferred none)) (fun k e9 => by cases e9; omega) (by have := hR3.lt; omega))
    refine ⟨by simp, .inl ⟨_, _, rfl, run_takeDeferred hK3, ?_⟩⟩
    rw [← HH.out]
    refine ⟨.slice (some ⟨g, 0, none⟩) q q, ?_, some ⟨g, 0, none⟩, q, q, rfl, hoF.mono (by omega), Nat.le_refl _, hBF⟩
    simp [results, Tryd.f72, go_sem, hcF]
  case stop =>
    rintro D c pre W hD ⟨q, rfl, hall⟩ ⟨⟨⟨rfl, hlen⟩, hbR⟩, hB⟩ hK
    rw [uptoX_len] at hlen
    have hcnt : cnt s e m = 41 := cnt_of s e m 41 (Nat.le_refl _) (fun j hj => by have := hall j (by omega); rwa [atX_back e m j (by omega) (by omega) e1 (by omega) (by omega)] at this) (.inl rfl)
    have hsf : schedF s e m = [] := by
      have hok : ¬ schedOk s e m = true := by unfold schedOk; rw [hsp, hcnt]; simp
      unfold schedF; rw [if_neg hok]
    have Hsf := hid hsf
    clear hsf hcnt hall
    gi_wp2
    have hcF := cell_kept hbR.cell (grownBy_putObj' W D (.deferred none)) (fun r e9 => by cases e9; exact ⟨_, hK, rfl⟩)
    have hBF : Below H w (W.putObj D (.deferred none)) := hB.trans (below_gr (grownBy_putObj' W D (.deferred none)) (fun k e9 => by cases e9; omega) (by have := hbR.lt; omega))
    refine ⟨by simp, .inl ⟨_, _, rfl, run_takeDeferred hK, ?_⟩⟩
    rw [← HH.out, Hsf.out]
    refine ⟨.slice none 0 0, ?_, none, 0, 0, rfl, Ow.nil _ _ _ _, Nat.le_refl _, hBF⟩
    simp [results, Tryd.f72, go_sem, hcF]

set_option maxRecDepth 100000 in
set_option maxHeartbeats 1000000 in
theorem ScheduleOf_any (s e m : Int) (w : World) (hw : Months w) :
    Calls Tryd.prog 72 #[.int .i64 s, .int .i64 e, .int .i64 m] w fun e' w' => ∃ a n cap, e' = .returned (.slice a n cap) ∧ Ow perL w' w.heap.size a n (schedF s e m) ∧ n ≤ cap ∧ w.grownBy w' none := by
  by_cases hsp : spanB s e m = true
  · refine (callsIn_wide.1 (ScheduleOk_in s e m w hw hsp)).mono ?_
    rintro e' w' ⟨a, n, cap, rfl, ho, hc, hb⟩
    exact ⟨a, n, cap, rfl, ho, hc, gr_below hb (Nat.le_refl _)⟩
  · have Hfin : Hid (schedF s e m = []) := hid (by
      unfold schedF; rw [if_neg]; unfold schedOk
      intro h; simp only [Bool.and_eq_true] at h; exact hsp h.1)
    have hno : withinB s 0 36524 = true → withinB e 0 36524 = true → ¬ e ≤ s → ([1, 3, 6, 12] : List Int).any (fun x => m == x) = true → False := by
      intro a b c d
      have a2 := (within_iff' _ _ _).1 a
      have b2 := (within_iff' _ _ _).1 b
      rw [months_any] at d
      refine hsp ?_
      unfold spanB
      simp only [Bool.and_eq_true, Bool.or_eq_true, decide_eq_true_eq] at d ⊢
      omega
    clear hsp hw
    by_cases d1 : withinB s 0 36524 = true
    · by_cases d2 : withinB e 0 36524 = true
      · by_cases d3 : e ≤ s
        · have d3b : decide (e ≤ s) = true := by simpa using d3
          clear hno
          go_enter Tryd.func72, Tryd.ntmps72
          go_wp2_with fail
          refine (dayValid_any s _).mono ?_
          rintro e' w1 ⟨rfl, rfl⟩
          rw [d1]
          go_wp2_with fail
          refine (dayValid_any e _).mono ?_
          rintro e' w1 ⟨rfl, rfl⟩
          rw [d2]
          go_wp2_with fail
          refine bodyPost_ret (v := .slice none 0 0) (by simp [results, Tryd.results72, go_sem]) rfl ⟨none, 0, 0, rfl, by rw [Hfin.out]; exact Ow.nil _ _ _ _, Nat.le_refl _, ?_⟩
          repeat (first | exact gr_refl _ _ | apply gr_alloc | refine gr_setCell ?_ (.inr (by simp)) _)
        · have d4 : ([1, 3, 6, 12] : List Int).any (fun x => m == x) = false := by
            cases h : ([1, 3, 6, 12] : List Int).any (fun x => m == x) with
            | false => rfl
            | true => exact (hno d1 d2 d3 h).elim
          have D4 := hid d4
          clear hno d4
          go_enter Tryd.func72, Tryd.ntmps72
          go_wp2_with fail
          refine (dayValid_any s _).mono ?_
          rintro e' w1 ⟨rfl, rfl⟩
          rw [d1]
          go_wp2_with fail
          refine (dayValid_any e _).mono ?_
          rintro e' w1 ⟨rfl, rfl⟩
          rw [d2]
          go_wp2_with fail
          have hsl : Sl intL (((w.alloc (.cells #[.int .i64 s] 3)).alloc (.cells #[.slice none 0 0] 67)).alloc (.cells #[.int .i64 1, .int .i64 3, .int .i64 6, .int .i64 12] 3)) (some ⟨w.heap.size + 1 + 1, 0, none⟩) 4 [1, 3, 6, 12] := by
            have := Sl.lit intL ((w.alloc (.cells #[.int .i64 s] 3)).alloc (.cells #[.slice none 0 0] 67)) #[.int .i64 1, .int .i64 3, .int .i64 6, .int .i64 12] 3 4 [1, 3, 6, 12] (by simp [intL]) rfl (by omega)
            simpa using this
          refine (ContainsInts_any (some ⟨w.heap.size + 1 + 1, 0, none⟩) 4 4 [1, 3, 6, 12] m _ hsl).mono ?_
          rintro e' w1 ⟨rfl, rfl⟩
          rw [D4.out]
          clear hsl
          go_wp2_with fail
          refine bodyPost_ret (v := .slice none 0 0) (by simp [results, Tryd.results72, go_sem]) rfl ⟨none, 0, 0, rfl, by rw [Hfin.out]; exact Ow.nil _ _ _ _, Nat.le_refl _, ?_⟩
          repeat (first | exact gr_refl _ _ | apply gr_alloc | refine gr_setCell ?_ (.inr (by simp)) _)
      · have d2 : withinB e 0 36524 = false := by simpa using d2
        clear hno
        go_enter Tryd.func72, Tryd.ntmps72
        go_wp2_with fail
        refine (dayValid_any s _).mono ?_
        rintro e' w1 ⟨rfl, rfl⟩
        rw [d1]
        go_wp2_with fail
        refine (dayValid_any e _).mono ?_
        rintro e' w1 ⟨rfl, rfl⟩
        rw [d2]
        go_wp2_with fail
        refine bodyPost_ret (v := .slice none 0 0) (by simp [results, Tryd.results72, go_sem]) rfl ⟨none, 0, 0, rfl, by rw [Hfin.out]; exact Ow.nil _ _ _ _, Nat.le_refl _, ?_⟩
        repeat (first | exact gr_refl _ _ | apply gr_alloc | refine gr_setCell ?_ (.inr (by simp)) _)
    · have d1 : withinB s 0 36524 = false := by simpa using d1
      clear hno
      go_enter Tryd.func72, Tryd.ntmps72
      go_wp2_with fail
      refine (dayValid_any s _).mono ?_
      rintro e' w1 ⟨rfl, rfl⟩
      rw [d1]
      go_wp2_with fail
      refine bodyPost_ret (v := .slice none 0 0) (by simp [results, Tryd.results72, go_sem]) rfl ⟨none, 0, 0, rfl, by rw [Hfin.out]; exact Ow.nil _ _ _ _, Nat.le_refl _, ?_⟩
      repeat (first | exact gr_refl _ _ | apply gr_alloc | refine gr_setCell ?_ (.inr (by simp)) _)

end Go.Proofs.YtpomlbloeejbjaaDoor

/- Mean lives: LifeOf of the program and of the reference. -/
import Derived.Test.YtpmafjmgacdgfaaDoorRows
import Derived.Test.YtpmafjmgacdgfaaDoorBase
import Derived.Test.YtpmafjmgacdgfaaDoorSpecAfter
namespace Go.Proofs.YtpmafjmgacdgfaaDoor
open Go.RowKit

theorem life_prod {x y a c : Int} (h0 : 0 ≤ x) (h1 : x ≤ a) (h2 : 0 ≤ y) (h3 : y ≤ c) : 0 ≤ x * y ∧ x * y ≤ a * c := ⟨Int.mul_nonneg h0 h2, Int.le_trans (Int.mul_le_mul_of_nonneg_right h1 h2) (Int.mul_le_mul_of_nonneg_left h3 (by omega))⟩

structure LifeL (day : Int) (L : List Flow) : Prop where
  b : ∀ x ∈ L, 0 ≤ x.amount ∧ x.amount ≤ 13000 ∧ day ≤ x.day ∧ x.day ≤ 36524
  d0 : 0 ≤ day
  d1 : day ≤ 36524
  l : L.length ≤ 40
theorem LifeL.of {b : Bond} {day : Int} (h : runB b day = true) : LifeL day (afterF b day) := by
  obtain ⟨hok, hd0, hd1⟩ := run_facts h
  have hs := hok.span.s0; have he := hok.span.e1
  refine ⟨fun x hx => ?_, by omega, by omega, ?_⟩
  · have := after_bd hok.bool x hx; omega
  · rw [after_len hok.bool]
    have : (persF b).length ≤ 40 := by unfold persF; rw [sched_len]; exact hok.span.q2
    omega
theorem LifeL.take {day : Int} {L : List Flow} (h : LifeL day L) (k : Nat) : 0 ≤ lifeN day (L.take k) ∧ lifeN day (L.take k) ≤ 20000000000 ∧ 0 ≤ lifeW (L.take k) ∧ lifeW (L.take k) ≤ 520000 := by
  obtain ⟨h1, h2, h3, h4⟩ := life_take (day := day) (lo := day) (hi := 36524) h.b k
  have hl : (L.take k).length ≤ 40 := by rw [List.length_take]; have := h.l; omega
  rw [Int.sub_self, Int.zero_mul] at h1
  have hd0 := h.d0; have hd1 := h.d1
  have h5 := life_prod (x := 36524 - day) (y := lifeW (L.take k)) (a := 36524) (c := 520000) (by omega) (by omega) h3 (by omega)
  omega
theorem LifeL.at {day : Int} {L : List Flow} (h : LifeL day L) (k : Nat) (f : Flow) (hf : L[k]? = some f) :
    0 ≤ f.amount ∧ f.amount ≤ 13000 ∧ 0 ≤ f.day - day ∧ f.day - day ≤ 36524 ∧ 0 ≤ f.amount * (f.day - day) ∧ f.amount * (f.day - day) ≤ 474812000 ∧ lifeN day (L.take (k + 1)) = lifeN day (L.take k) + f.amount * (f.day - day) ∧ lifeW (L.take (k + 1)) = lifeW (L.take k) + f.amount := by
  have hb := h.b f (List.mem_of_getElem? hf)
  have hd0 := h.d0
  have hp := life_prod (x := f.amount) (y := f.day - day) (a := 13000) (c := 36524) hb.1 hb.2.1 (by omega) (by omega)
  rw [take_snoc _ _ _ hf, lifeN_snoc, lifeW_snoc]
  refine ⟨hb.1, hb.2.1, by omega, by omega, hp.1, hp.2, rfl, rfl⟩

set_option maxRecDepth 100000 in
set_option maxHeartbeats 1000000 in
theorem speclifeOf_any (day : Int) (a : Option Addr) (n cap : Nat) (L : List Flow) (w : World) (hs : Sl flowL w a n L) (hL : LifeL day L) :
    Calls Tryd.prog 72 #[.slice a n cap, .int .i64 day] w fun e' w' => e' = .returned (.tuple #[.int .i64 (lifeN day L), .int .i64 (lifeW L)]) ∧ w.grownBy w' none := by
  have Hs := hid hs; clear hs
  have HL := hid hL
  have hn : n ≤ 40 := by have := Hs.out.len; have := hL.l; omega
  have hd0 := hL.d0; have hd1 := hL.d1
  clear hL
  go_enter Tryd.func72, Tryd.ntmps72
  go_wp2_with fail
  go_loopw [6, 7, 8] (fun s q i wr => ∃ k : Nat, k ≤ n ∧ i = .int .i64 k ∧ s = .int .i64 (lifeN day (L.take k)) ∧ q = .int .i64 (lifeW (L.take k)) ∧ w.grownBy wr none) (fun _ _ i _ => n - (intOf i).toNat)
  case atStart => exact ⟨0, by omega, rfl, rfl, rfl, gr0 _⟩
  case round =>
    obtain ⟨k, hk, rfl, rfl, rfl, hg⟩ := hrel
    have Hg := hid hg
    clear hg
    by_cases hlt : k < n
    · obtain ⟨b, o, f, rfl, hf, l0, l1⟩ := flow_at (Hs.out.keep0 Hg.out) k hlt
      obtain ⟨t0, t1, t2, t3⟩ := HL.out.take k
      obtain ⟨a0, a1, a2, a3, a4, a5, e1, e2⟩ := HL.out.at k f hf
      have E1 := hid e1; have E2 := hid e2
      clear e1 e2 hf
      have hi0 : (0 : Int) ≤ k := by omega
      have hi1 : (k : Int) < n := by omega
      generalize lifeN day (L.take k) = s at *
      generalize lifeW (L.take k) = q at *
      generalize hz : f.amount * (f.day - day) = z at *
      have u1 : IntKind.i64.wrap (f.day - day) = f.day - day := IntWalk.i64_in _ (by omega)
      have u2 : IntKind.i64.wrap (f.amount * (f.day - day)) = z := by rw [hz]; exact IntWalk.i64_in _ (by omega)
      have u3 : IntKind.i64.wrap (s + z) = s + z := IntWalk.i64_in _ (by omega)
      clear hz
      go_wp2_with fail
      go_quiet (fail)
      clear u1 u2 u3
      go_wp2_with fail
      go_roundw
      case rel => exact ⟨k + 1, by omega, by go_num, by rw [E1.out], by rw [E2.out], gr_drewN Hg.out _⟩
      case measure => simp [intOf]; omega
    · obtain rfl : k = n := by omega
      have hLk := take_len L k Hs.out.len
      rw [hLk]
      clear hLk
      go_wp2_with fail
      go_ret2
      exact ⟨rfl, Hg.out⟩

set_option maxRecDepth 100000 in
set_option maxHeartbeats 1000000 in
theorem LifeOf_any (b : Bond) (day : Int) (w : World) (hmo : Months w) :
    Calls Tryd.prog 39 #[.agg #[.int .i64 b.start, .int .i64 b.stop, .int .i64 b.months, .int .i64 b.rate], .int .i64 day] w fun e' w' => e' = .returned (.int .i64 (lifeF b day)) ∧ w.grownBy w' none := by
  have hg0 : w.grownBy (w.alloc (.cells #[.int .i64 b.start, .int .i64 b.stop, .int .i64 b.months, .int .i64 b.rate] 25)) none := gr_alloc (gr0 _) _
  have Hb0 := hid (heap_alloc_new w (.cells #[.int .i64 b.start, .int .i64 b.stop, .int .i64 b.months, .int .i64 b.rate] 25))
  have HG := hid hg0
  have hm0 := hmo.keep0 hg0
  have Hmo := hid hmo
  clear hmo
  cases h : runB b day with
  | false =>
    have HR := hid (runningNo_any b day _ hm0 h)
    have H := hid (life_no h)
    clear h hm0 hg0
    go_enter Tryd.func39, Tryd.ntmps39
    go_wp2_with fail
    refine HR.out.mono ?_
    rintro e' w1 ⟨rfl, hg⟩
    have Hg1 := hid (gr_trans0 HG.out hg)
    clear hg
    go_wp2_with fail
    go_ret
    exact ⟨ret_int H.out.symm, Hg1.out⟩
  | true =>
    have HR := hid (runningYes_any b day _ hm0 h)
    have HF := hid (fun wx (hx : Months wx) => FlowsAfter_any b day wx hx)
    have HL := hid (LifeL.of h)
    have Hlf := hid (life_facts h)
    have H := hid (show lifeF b day = lifeN day (afterF b day) / lifeW (afterF b day) from (life_le h).1)
    have hd0 := HL.out.d0; have hd1 := HL.out.d1
    clear h hm0 hg0
    go_enter Tryd.func39, Tryd.ntmps39
    go_wp2_with fail
    refine HR.out.mono ?_
    rintro e' w1 ⟨pa, pn, pc, rfl, _, _, hg⟩
    have Hg1 := hid (gr_trans0 HG.out hg)
    have hb1 := blk_keep Hb0.out hg (by simp)
    have c0 := blk_cell hb1 0 _ rfl
    have c1 := blk_cell hb1 1 _ rfl
    have c2 := blk_cell hb1 2 _ rfl
    have c3 := blk_cell hb1 3 _ rfl
    clear hb1 hg
    go_wp2_with fail
    refine (HF.out _ (Hmo.out.keep0 Hg1.out)).mono ?_
    rintro e' w2 ⟨la, n, lc, rfl, ho, _, hg⟩
    have Hg2 := hid (gr_trans0 Hg1.out hg)
    have Hs := hid ho.sl
    clear hg ho c0 c1 c2 c3
    generalize afterF b day = L at *
    have hn : n ≤ 40 := by have := Hs.out.len; have := HL.out.l; omega
    go_wp2_with fail
    go_loopw [8, 9, 25] (fun s q i wr => ∃ k : Nat, k ≤ n ∧ i = .int .i64 k ∧ s = .int .i64 (lifeN day (L.take k)) ∧ q = .int .i64 (lifeW (L.take k)) ∧ w2.grownBy wr none) (fun _ _ i _ => n - (intOf i).toNat)
    case atStart => exact ⟨0, by omega, rfl, rfl, rfl, gr0 _⟩
    case round =>
      obtain ⟨k, hk, rfl, rfl, rfl, hg⟩ := hrel
      have Hg := hid hg
      clear hg
      by_cases hlt : k < n
      · obtain ⟨lb, o, f, rfl, hf, l0, l1⟩ := flow_at (Hs.out.keep0 Hg.out) k hlt
        obtain ⟨t0, t1, t2, t3⟩ := HL.out.take k
        obtain ⟨a0, a1, a2, a3, a4, a5, e1, e2⟩ := HL.out.at k f hf
        have E1 := hid e1; have E2 := hid e2
        clear e1 e2 hf
        have hi0 : (0 : Int) ≤ k := by omega
        have hi1 : (k : Int) < n := by omega
        generalize lifeN day (L.take k) = s at *
        generalize lifeW (L.take k) = q at *
        go_wp2_with fail
        go_roundw
        case rel => exact ⟨k + 1, by omega, by go_num, by rw [E1.out], by rw [E2.out], gr_alloc Hg.out _⟩
        case measure => simp [intOf]; omega
      · obtain rfl : k = n := by omega
        have hLk := take_len L k Hs.out.len
        rw [hLk]
        obtain ⟨q0, q1, q2, q3⟩ := Hlf.out
        obtain ⟨t0, t1, t2, t3⟩ := HL.out.take k
        rw [hLk] at t0 t1 t2 t3
        clear hLk q3
        generalize lifeN day L = s at *
        generalize lifeW L = q at *
        have hq : IntKind.i64.wrap (s.tdiv q) = s / q := IntWalk.i64_quo _ _ (by omega)
        go_wp2_with fail
        go_ret
        exact ⟨ret_int H.out.symm, gr_trans0 Hg2.out Hg.out⟩

set_option maxRecDepth 100000 in
set_option maxHeartbeats 1000000 in
theorem specLifeOf_any (b : Bond) (day : Int) (w : World) :
    Calls Tryd.prog 40 #[.agg #[.int .i64 b.start, .int .i64 b.stop, .int .i64 b.months, .int .i64 b.rate], .int .i64 day] w fun e' w' => e' = .returned (.int .i64 (lifeF b day)) ∧ w.grownBy w' none := by
  have hg0 : w.grownBy (w.alloc (.cells #[.int .i64 b.start, .int .i64 b.stop, .int .i64 b.months, .int .i64 b.rate] 25)) none := gr_alloc (gr0 _) _
  have Hb0 := hid (heap_alloc_new w (.cells #[.int .i64 b.start, .int .i64 b.stop, .int .i64 b.months, .int .i64 b.rate] 25))
  have HG := hid hg0
  have HR := hid (specrunning_any b day (w.alloc (.cells #[.int .i64 b.start, .int .i64 b.stop, .int .i64 b.months, .int .i64 b.rate] 25)))
  cases h : runB b day with
  | false =>
    rw [h] at HR
    have H := hid (life_no h)
    clear h hg0
    go_enter Tryd.func40, Tryd.ntmps40
    go_wp2_with fail
    refine HR.out.mono ?_
    rintro e' w1 ⟨rfl, hg⟩
    have Hg1 := hid (gr_trans0 HG.out hg)
    clear hg
    go_wp2_with fail
    go_ret
    exact ⟨ret_int H.out.symm, Hg1.out⟩
  | true =>
    rw [h] at HR
    have HF := hid (fun wx => specFlowsAfter_any b day wx)
    have HL := hid (LifeL.of h)
    have Hlf := hid (life_facts h)
    have H := hid (show lifeF b day = lifeN day (afterF b day) / lifeW (afterF b day) from (life_le h).1)
    clear h hg0
    go_enter Tryd.func40, Tryd.ntmps40
    go_wp2_with fail
    refine HR.out.mono ?_
    rintro e' w1 ⟨rfl, hg⟩
    have Hg1 := hid (gr_trans0 HG.out hg)
    have hb1 := blk_keep Hb0.out hg (by simp)
    have c0 := blk_cell hb1 0 _ rfl
    have c1 := blk_cell hb1 1 _ rfl
    have c2 := blk_cell hb1 2 _ rfl
    have c3 := blk_cell hb1 3 _ rfl
    clear hb1 hg
    go_wp2_with fail
    refine (HF.out _).mono ?_
    rintro e' w2 ⟨la, n, lc, rfl, ho, _, hg⟩
    have Hg2 := hid (gr_trans0 Hg1.out hg)
    have Hs := hid ho.sl
    clear hg ho c0 c1 c2 c3
    generalize afterF b day = L at *
    go_wp2_with fail
    refine (speclifeOf_any day la n lc L w2 Hs.out HL.out).mono ?_
    rintro e' w3 ⟨rfl, hg⟩
    have Hg3 := hid (gr_trans0 Hg2.out hg)
    clear hg
    obtain ⟨q0, q1, q2, q3⟩ := Hlf.out
    have ht := (HL.out.take n).2.1
    rw [take_len L n Hs.out.len] at ht
    clear q3
    generalize lifeN day L = s at *
    generalize lifeW L = q at *
    have hq : IntKind.i64.wrap (s.tdiv q) = s / q := IntWalk.i64_quo _ _ (by omega)
    go_wp2_with fail
    go_ret
    exact ⟨ret_int H.out.symm, Hg3.out⟩

end Go.Proofs.YtpmafjmgacdgfaaDoor

/- Packed: PriceWalk. -/
import Derived.Test.YtielicmjdhmcjaaGreatDoorRows
import Derived.Test.YtielicmjdhmcjaaGreatDoorPk33
import Derived.Test.YtielicmjdhmcjaaGreatDoorPk25
/- Prices: priceOf and PriceOf of the program. -/
namespace Go.Proofs.YtielicmjdhmcjaaGreatDoor
open Go.RowKit

theorem sumD_snoc (f : Nat → Int) (j : Nat) (xs : List Flow) (x : Flow) : sumD f j (xs ++ [x]) = sumD f j xs + x.amount * f (j + xs.length) := by
  induction xs generalizing j with
  | nil => simp [sumD]
  | cons z zs ih =>
    simp only [List.cons_append, sumD, List.length_cons]
    rw [ih (j + 1), show j + (zs.length + 1) = j + 1 + zs.length by omega]; omega

theorem sumD_take_bd (f : Nat → Int) (L : List Flow) (c : Int) (_ : 0 ≤ c) (ha : ∀ x ∈ L, 0 ≤ x.amount ∧ x.amount ≤ 13000) (hf : ∀ j, j < L.length → 0 ≤ f j ∧ f j ≤ c) (k : Nat) (hk : k ≤ L.length) : 0 ≤ sumD f 0 (L.take k) ∧ sumD f 0 (L.take k) ≤ 13000 * c * k := by
  induction k with
  | zero => simp [sumD]
  | succ k ih =>
    have hx : L[k]? = some (L[k]'(by omega)) := by simp [show k < L.length by omega]
    obtain ⟨i0, i1⟩ := ih (by omega)
    have h1 := ha _ (List.mem_of_getElem? hx)
    have h2 := hf k (by omega)
    have h3 : 0 ≤ (L[k]'(by omega)).amount * f k := Int.mul_nonneg h1.1 h2.1
    have h4 : (L[k]'(by omega)).amount * f k ≤ 13000 * c := mul_le h1.2 h2.2 h1.1 h2.1
    rw [take_snoc _ _ _ hx, sumD_snoc, List.length_take, show 0 + min k L.length = k by omega]
    have h5 : 13000 * c * ((k + 1 : Nat) : Int) = 13000 * c * k + 13000 * c := by push_cast; rw [Int.mul_add, Int.mul_one]
    omega

structure PxAt (b : Bond) (day y lf df : Int) (k : Nat) (x : Flow) : Prop where
  a0 : 0 ≤ x.amount
  a1 : x.amount ≤ 13000
  l0 : 0 ≤ discL y lf df k
  l1 : discL y lf df k ≤ discH y lf df k
  l2 : discH y lf df k ≤ 1000000
  g0 : 1000000 ≤ growL y lf df k
  g1 : growL y lf df k ≤ growH y lf df k
  g2 : growH y lf df k ≤ 100000000
  p0 : 0 ≤ x.amount * discL y lf df k
  p1 : x.amount * discL y lf df k ≤ 13000000000
  q0 : 0 ≤ x.amount * discH y lf df k
  q1 : x.amount * discH y lf df k ≤ 13000000000
  sl : sumD (discL y lf df) 0 ((tailF b day).take (k + 1)) = sumD (discL y lf df) 0 ((tailF b day).take k) + x.amount * discL y lf df k
  sh : sumD (discH y lf df) 0 ((tailF b day).take (k + 1)) = sumD (discH y lf df) 0 ((tailF b day).take k) + x.amount * discH y lf df k

theorem Run.pxAt {b : Bond} {day : Int} (h : Run b day) {y : Int} (h0 : 0 ≤ y) (h1 : y ≤ 100000) (k : Nat) (x : Flow) (hx : (tailF b day)[k]? = some x) : PxAt b day y (leftF b day) (daysF b day) k x := by
  have hk := h.okY h0 h1
  have hl := lt_of_at hx
  have ht := h.tail_len
  have ha := h.tail_amount x (List.mem_of_getElem? hx)
  have hd := disc_lo hk k (by omega)
  have hg := grow_lo hk k
  refine ⟨ha.1, ha.2, by omega, hd.2.1, hd.2.2, hg.1, hg.2, grow_max hk k (by omega), Int.mul_nonneg ha.1 (by omega), ?_, Int.mul_nonneg ha.1 (by omega), ?_, ?_, ?_⟩
  · exact mul_le (b := 13000) (d := 1000000) ha.2 (by omega) ha.1 (by omega)
  · exact mul_le (b := 13000) (d := 1000000) ha.2 (by omega) ha.1 (by omega)
  · rw [take_snoc _ _ _ hx, sumD_snoc, List.length_take, show 0 + min k (tailF b day).length = k by omega]
  · rw [take_snoc _ _ _ hx, sumD_snoc, List.length_take, show 0 + min k (tailF b day).length = k by omega]
theorem Run.pxSum {b : Bond} {day : Int} (h : Run b day) {y : Int} (h0 : 0 ≤ y) (h1 : y ≤ 100000) (k : Nat) (hk : k ≤ (tailF b day).length) :
    (0 ≤ sumD (discL y (leftF b day) (daysF b day)) 0 ((tailF b day).take k) ∧ sumD (discL y (leftF b day) (daysF b day)) 0 ((tailF b day).take k) ≤ 520000000000) ∧ 0 ≤ sumD (discH y (leftF b day) (daysF b day)) 0 ((tailF b day).take k) ∧ sumD (discH y (leftF b day) (daysF b day)) 0 ((tailF b day).take k) ≤ 520000000000 := by
  have hy := h.okY h0 h1
  have ht := h.tail_len
  have a := sumD_take_bd (discL y (leftF b day) (daysF b day)) (tailF b day) 1000000 (by omega) (fun x hx => h.tail_amount x hx) (fun j hj => by have := disc_lo hy j (by omega); omega) k hk
  have c := sumD_take_bd (discH y (leftF b day) (daysF b day)) (tailF b day) 1000000 (by omega) (fun x hx => h.tail_amount x hx) (fun j hj => by have := disc_lo hy j (by omega); omega) k hk
  omega

theorem yieldValid_any (y : Int) (w : World) : Calls Tryz.prog 127 #[.int .i64 y] w fun e w' => e = .returned (.bool (yieldB y)) ∧ w = w' := by
  go_enter Tryz.func127, Tryz.ntmps127
  go_wp2_with fail
  refine (within_any _ _ _ _).mono ?_
  rintro e w' ⟨rfl, rfl⟩
  go_wp2_with fail
  go_ret
  exact ⟨rfl, rfl⟩

set_option maxRecDepth 100000 in
set_option maxHeartbeats 1000000 in
theorem priceOfNo_any (b : Bond) (day y : Int) (w : World) (hmo : Months w) (h : priceB b day y = false) :
    Calls Tryz.prog 89 #[.agg #[.int .i64 b.start, .int .i64 b.stop, .int .i64 b.months, .int .i64 b.rate], .int .i64 day, .int .i64 y] w fun e' w' => e' = .returned (.tuple #[.agg #[.int .i64 0, .int .i64 0], .bool false]) ∧ w.grownBy w' none := by
  have hg0 : w.grownBy (w.alloc (.cells #[.int .i64 b.start, .int .i64 b.stop, .int .i64 b.months, .int .i64 b.rate] 37)) none := gr_alloc (gr0 _) _
  have hg00 : w.grownBy ((w.alloc (.cells #[.int .i64 b.start, .int .i64 b.stop, .int .i64 b.months, .int .i64 b.rate] 37)).alloc (.cells #[.int .i64 0, .int .i64 0] 87)) none := gr_alloc hg0 _
  have hz := heap_alloc_new (w.alloc (.cells #[.int .i64 b.start, .int .i64 b.stop, .int .i64 b.months, .int .i64 b.rate] 37)) (.cells #[.int .i64 0, .int .i64 0] 87)
  rw [World.size_alloc] at hz
  have Hz0 := hid hz
  have Hb0 := hid (blk_alloc (heap_alloc_new w (.cells #[.int .i64 b.start, .int .i64 b.stop, .int .i64 b.months, .int .i64 b.rate] 37)) (.cells #[.int .i64 0, .int .i64 0] 87))
  have HG := hid hg00
  have hm0 := hmo.keep0 hg00
  cases hr : runB b day with
  | false =>
    have HR := hid (runningNo_any b day _ hm0 hr)
    clear hr h hg0 hg00 hz hm0 hmo
    go_enter Tryz.func89, Tryz.ntmps89
    go_wp2_with fail
    refine HR.out.mono ?_
    rintro e' w1 ⟨rfl, hg⟩
    have Hg1 := hid (gr_trans0 HG.out hg)
    have hz1 := blk_keep Hz0.out hg (by simp)
    have z0 := blk_cell hz1 0 _ rfl
    have z1 := blk_cell hz1 1 _ rfl
    have k0 := blk_frozen hz1 0
    have k1 := blk_frozen hz1 1
    clear hz1 hg
    go_wp2_with fail
    exact bodyPost_ret (v := .tuple #[.agg #[.int .i64 0, .int .i64 0], .bool false]) (by simp [results, Tryz.results89, go_sem, *]) rfl ⟨rfl, gr_setCell (p := ⟨w.heap.size + 1, 1, none⟩) (gr_setCell (p := ⟨w.heap.size + 1, 0, none⟩) Hg1.out (.inr (Nat.le_succ _)) _) (.inr (Nat.le_succ _)) _⟩
  | true =>
    have hy : yieldB y = false := by unfold priceB at h; rw [hr] at h; simpa using h
    have HR := hid (runningYes_any b day _ hm0 hr)
    have HY := hid hy
    clear hr h hg0 hg00 hz hm0 hmo hy
    go_enter Tryz.func89, Tryz.ntmps89
    go_wp2_with fail
    refine HR.out.mono ?_
    rintro e' w1 ⟨pa, pn, pc, rfl, _, _, hg⟩
    have Hg1 := hid (gr_trans0 HG.out hg)
    have hz1 := blk_keep Hz0.out hg (by simp)
    have z0 := blk_cell hz1 0 _ rfl
    have z1 := blk_cell hz1 1 _ rfl
    have k0 := blk_frozen hz1 0
    have k1 := blk_frozen hz1 1
    clear hz1 hg
    go_wp2_with fail
    refine (yieldValid_any _ _).mono ?_
    rintro e' w2 ⟨rfl, rfl⟩
    rw [HY.out]
    go_wp2_with fail
    exact bodyPost_ret (v := .tuple #[.agg #[.int .i64 0, .int .i64 0], .bool false]) (by simp [results, Tryz.results89, go_sem, *]) rfl ⟨rfl, gr_setCell (p := ⟨w.heap.size + 1, 1, none⟩) (gr_setCell (p := ⟨w.heap.size + 1, 0, none⟩) Hg1.out (.inr (Nat.le_succ _)) _) (.inr (Nat.le_succ _)) _⟩

set_option maxRecDepth 100000 in
set_option maxHeartbeats 4000000 in
theorem priceOfYes_any (b : Bond) (day y : Int) (w : World) (hmo : Months w) (h : Run b day) (y0 : 0 ≤ y) (y1 : y ≤ 100000) :
    Calls Tryz.prog 89 #[.agg #[.int .i64 b.start, .int .i64 b.stop, .int .i64 b.months, .int .i64 b.rate], .int .i64 day, .int .i64 y] w fun e' w' => e' = .returned (.tuple #[.agg #[.int .i64 (priceLo b day y), .int .i64 (priceHi b day y)], .bool true]) ∧ w.grownBy w' none := by
  have hg0 : w.grownBy (w.alloc (.cells #[.int .i64 b.start, .int .i64 b.stop, .int .i64 b.months, .int .i64 b.rate] 37)) none := gr_alloc (gr0 _) _
  have hg00 : w.grownBy ((w.alloc (.cells #[.int .i64 b.start, .int .i64 b.stop, .int .i64 b.months, .int .i64 b.rate] 37)).alloc (.cells #[.int .i64 0, .int .i64 0] 87)) none := gr_alloc hg0 _
  have hz := heap_alloc_new (w.alloc (.cells #[.int .i64 b.start, .int .i64 b.stop, .int .i64 b.months, .int .i64 b.rate] 37)) (.cells #[.int .i64 0, .int .i64 0] 87)
  rw [World.size_alloc] at hz
  have Hz0 := hid hz
  have Hb0 := hid (blk_alloc (heap_alloc_new w (.cells #[.int .i64 b.start, .int .i64 b.stop, .int .i64 b.months, .int .i64 b.rate] 37)) (.cells #[.int .i64 0, .int .i64 0] 87))
  have HG := hid hg00
  have hm0 := hmo.keep0 hg00
  have HR := hid (runningYes_any b day _ hm0 h.bool)
  have HY := hid (show yieldB y = true by unfold yieldB; rw [decide_eq_true y0, decide_eq_true y1]; rfl)
  have HF := hid (fun wx (hx : Months wx) => flows_any b wx hx h.ok)
  have Hmo := hid hmo
  have HPx := hid (fun k x hx => h.pxAt y0 y1 k x hx)
  have HPs := hid (fun k hk => h.pxSum y0 y1 k hk)
  obtain ⟨hpa, pf0, pf1, hpm, hpl⟩ := perAt_spec h.ok day h.d0 h.d1
  have Hpa := hid hpa
  have hpo := pers_okPer h.ok _ hpm
  have hpt0 := hpo.f0; have hpt1 := hpo.ft; have hpt2 := hpo.t1
  have hln : (persF b).length ≤ 40 := by unfold persF; rw [sched_len]; exact h.ok.span.q2
  have Hfl := hid (flows_len b)
  have Htail := hid (show tailF b day = (flowsL b).drop (atF (persF b) day) from rfl)
  have HLo := hid (show priceLo b day y = flr (sumD (discL y (leftF b day) (daysF b day)) 0 (tailF b day)) 1000000 from rfl)
  have HHi := hid (show priceHi b day y = cei (sumD (discH y (leftF b day) (daysF b day)) 0 (tailF b day)) 1000000 from rfl)
  have Hdl := hid (show ∀ k, discL y (leftF b day) (daysF b day) k = flr 1000000000000 (growH y (leftF b day) (daysF b day) k) from fun _ => rfl)
  have Hdh := hid (show ∀ k, discH y (leftF b day) (daysF b day) k = cei 1000000000000 (growL y (leftF b day) (daysF b day) k) from fun _ => rfl)
  have Hgl := hid (show ∀ k, growL y (leftF b day) (daysF b day) (k + 1) = flr (growL y (leftF b day) (daysF b day) k * (1000000 + y)) 1000000 from fun _ => rfl)
  have Hgh := hid (show ∀ k, growH y (leftF b day) (daysF b day) (k + 1) = cei (growH y (leftF b day) (daysF b day) k * (1000000 + y)) 1000000 from fun _ => rfl)
  have hgr := fun wx => growth_any y (leftF b day) (daysF b day) wx y0 y1 (h.okY y0 y1).l0 (h.okY y0 y1).ld (h.okY y0 y1).d1
  have Hle := hid (show leftF b day = (perAt b day).till - day from rfl)
  have Hda := hid (show daysF b day = (perAt b day).till - (perAt b day).frm from rfl)
  have HGr := hid hgr
  obtain ⟨p, hp⟩ : ∃ p, perAt b day = p := ⟨_, rfl⟩
  obtain ⟨at1, hat⟩ : ∃ at1, atF (persF b) day = at1 := ⟨_, rfl⟩
  rw [hat] at Hpa hpl Htail HR
  rw [hp] at Hpa pf0 pf1 hpt0 hpt1 hpt2 Hle Hda
  generalize leftF b day = lf at *
  generalize daysF b day = df at *
  have u1 : IntKind.i64.wrap (p.till - day) = lf := by rw [Hle.out]; exact IntWalk.i64_in _ (by omega)
  have u2 : IntKind.i64.wrap (p.till - p.frm) = df := by rw [Hda.out]; exact IntWalk.i64_in _ (by omega)
  clear h hg0 hg00 hz hm0 hmo hpa hpm hpo hp hat hgr
  go_enter Tryz.func89, Tryz.ntmps89
  go_wp2_with fail
  refine HR.out.mono ?_
  rintro e' w1 ⟨pa, pn, pc, rfl, ho, _, hg⟩
  have Hg1 := hid (gr_trans0 HG.out hg)
  have Hz1 := hid (blk_keep Hz0.out hg (by simp))
  have hb1 := blk_keep Hb0.out hg (by simp)
  have c0 := blk_cell hb1 0 _ rfl
  have c1 := blk_cell hb1 1 _ rfl
  have c2 := blk_cell hb1 2 _ rfl
  have c3 := blk_cell hb1 3 _ rfl
  have hpn : pn ≤ 40 := by have := ho.len; omega
  have hatn : at1 < pn := by have := ho.len; omega
  have Hpl := hid (show (persF b).length = pn from ho.len)
  have Hsp1 := hid ho.sl
  clear ho hg hb1 hpl hln
  go_wp2_with fail
  refine (yieldValid_any _ _).mono ?_
  rintro e' w2 ⟨rfl, rfl⟩
  rw [HY.out]
  go_wp2_with fail
  refine (HF.out _ (Hmo.out.keep0 Hg1.out)).mono ?_
  rintro e' w3 ⟨fa, fn, fc, rfl, ho, hfc, hg⟩
  have Hg3 := hid (gr_trans0 Hg1.out hg)
  have Hz3 := hid (blk_keep Hz1.out hg (by simp))
  have Hsp3 := hid (Hsp1.out.keep0 hg)
  have Hsf3 := hid ho.sl
  obtain rfl : fn = pn := by have := ho.len; have := Hfl.out; have := Hpl.out; omega
  clear ho hg c0 c1 c2 c3
  obtain ⟨fb, fo, _, rfl, _, hfb, _⟩ := Hsf3.out.at 0 (by omega)
  obtain ⟨pb, po, _, rfl, _, hpb, _⟩ := Hsp3.out.at 0 (by omega)
  have hi0 : (0 : Int) ≤ at1 := by omega
  have hi1 : (at1 : Int) < fn := by omega
  go_upto_region 6 with fail
  go_cut [14] from 36 to 55 (fun v wx => ∃ G, v = .pointer (some ⟨G, 0, none⟩) ∧ wx.heap[G]? = some (.cells #[.int .i64 (growL y lf df 0), .int .i64 (growH y lf df 0)] 87 (0, 0)) ∧ w3.heap.size ≤ G ∧ w3.grownBy wx none)
  case first =>
    refine wp_region_held_drew (S := fun w' => w3.heap.size ≤ w'.heap.size ∧ Sl perL w' (some ⟨pb, po, none⟩) fn (persF b) ∧ w3.grownBy w' none) (by kernel_rfl) ⟨Nat.le_refl _, Hsp3.out.keep0 (gr_drew (gr0 _)), gr_drew (gr0 _)⟩ (fun hHeld => ?_)
    refine wpAnyH_take (i := 0) (v := ?_) rfl (by kernel_rfl) (by kernel_rfl) (by kernel_rfl) (fun _ _ _ h => h) (Or.inl ⟨by rfl, ?_⟩) hHeld ?_
    rotate_left
    · intro w9 hSw
      (obtain ⟨_, sl, _⟩ := hSw; obtain ⟨lb2, lo2, z2, le2, hz2, u0, u1, u2⟩ := per_at sl at1 hatn; cases le2; rw [Hpa.out] at hz2; obtain rfl := Option.some.inj hz2; clear sl)
      go_simp
      all_goals (try with_reducible rfl)
    (try simp only [Act.put, gA, gC, gD, gE, gF])
    refine wpAnyH_take (i := 1) (v := ?_) rfl (by kernel_rfl) (by kernel_rfl) (by kernel_rfl) (fun _ _ _ h => h) (Or.inl ⟨by rfl, ?_⟩) hHeld ?_
    rotate_left
    · intro w9 hSw
      (obtain ⟨_, sl, _⟩ := hSw; obtain ⟨lb2, lo2, z2, le2, hz2, u0, u1, u2⟩ := per_at sl at1 hatn; cases le2; rw [Hpa.out] at hz2; obtain rfl := Option.some.inj hz2; clear sl)
      go_simp
      all_goals (try with_reducible rfl)
    (try simp only [Act.put, gA, gB, gC, gD, gE, gF])
    refine wpAnyH_take (i := 2) (v := ?_) rfl (by kernel_rfl) (by kernel_rfl) (by kernel_rfl) (fun _ _ _ h => h) (Or.inl ⟨by rfl, ?_⟩) hHeld ?_
    rotate_left
    · intro w9 hSw
      (obtain ⟨_, sl, _⟩ := hSw; obtain ⟨lb2, lo2, z2, le2, hz2, u0, u1, u2⟩ := per_at sl at1 hatn; cases le2; rw [Hpa.out] at hz2; obtain rfl := Option.some.inj hz2; clear sl)
      go_simp
      all_goals (try with_reducible rfl)
    (try simp only [Act.put, gA, gB, gC, gD, gE, gF])
    refine wpAnyH_take (i := 3) (v := ?_) rfl (by kernel_rfl) (by kernel_rfl) (by kernel_rfl) (fun _ _ _ h => h) (Or.inl ⟨by rfl, ?_⟩) hHeld ?_
    rotate_left
    · intro w9 hSw
      (obtain ⟨_, sl, _⟩ := hSw; obtain ⟨lb2, lo2, z2, le2, hz2, u0, u1, u2⟩ := per_at sl at1 hatn; cases le2; rw [Hpa.out] at hz2; obtain rfl := Option.some.inj hz2; clear sl)
      go_simp
      all_goals (try with_reducible rfl)
    (try simp only [Act.put, gA, gB, gC, gD, gE, gF])
    refine wpAnyH_take (i := 4) (v := ?_) rfl (by kernel_rfl) (by kernel_rfl) (by kernel_rfl) (fun _ _ _ h => h) (Or.inl ⟨by rfl, ?_⟩) hHeld ?_
    rotate_left
    · intro w9 hSw
      (obtain ⟨_, sl, _⟩ := hSw; obtain ⟨lb2, lo2, z2, le2, hz2, u0, u1, u2⟩ := per_at sl at1 hatn; cases le2; rw [Hpa.out] at hz2; obtain rfl := Option.some.inj hz2; clear sl)
      go_simp
      all_goals (try with_reducible rfl)
    (try simp only [Act.put, gA, gB, gC, gD, gE, gF])
    refine wpAnyH_take (i := 5) (v := ?_) rfl (by kernel_rfl) (by kernel_rfl) (by kernel_rfl) (fun _ _ _ h => h) (Or.inl ⟨by rfl, ?_⟩) hHeld ?_
    rotate_left
    · intro w9 hSw
      (obtain ⟨_, sl, _⟩ := hSw; obtain ⟨lb2, lo2, z2, le2, hz2, u0, u1, u2⟩ := per_at sl at1 hatn; cases le2; rw [Hpa.out] at hz2; obtain rfl := Option.some.inj hz2; clear sl)
      go_simp
      all_goals (try with_reducible rfl)
    (try simp only [Act.put, gA, gB, gC, gD, gE, gF])
    refine wpAnyH_take (i := 6) (v := ?_) rfl (by kernel_rfl) (by kernel_rfl) (by kernel_rfl) (fun _ _ _ h => h) (Or.inl ⟨by rfl, ?_⟩) hHeld ?_
    rotate_left
    · intro w9 hSw
      (obtain ⟨_, sl, _⟩ := hSw; obtain ⟨lb2, lo2, z2, le2, hz2, u0, u1, u2⟩ := per_at sl at1 hatn; cases le2; rw [Hpa.out] at hz2; obtain rfl := Option.some.inj hz2; clear sl)
      go_simp
      all_goals (try with_reducible rfl)
    (try simp only [Act.put, gA, gB, gC, gD, gE, gF])
    refine wpAnyH_take (i := 7) (v := ?_) rfl (by kernel_rfl) (by kernel_rfl) (by kernel_rfl) (fun _ _ _ h => h) (Or.inl ⟨by rfl, ?_⟩) hHeld ?_
    rotate_left
    · intro w9 hSw
      (obtain ⟨_, sl, _⟩ := hSw; obtain ⟨lb2, lo2, z2, le2, hz2, u0, u1, u2⟩ := per_at sl at1 hatn; cases le2; rw [Hpa.out] at hz2; obtain rfl := Option.some.inj hz2; clear sl)
      go_simp
      all_goals (try with_reducible rfl)
    (try simp only [Act.put, gA, gB, gC, gD, gE, gF])
    (try simp only [u1])
    refine wpAnyH_take (i := 8) (v := ?_) rfl (by kernel_rfl) (by kernel_rfl) (by kernel_rfl) (fun _ _ _ h => h) (Or.inl ⟨by rfl, ?_⟩) hHeld ?_
    rotate_left
    · intro w9 hSw
      (obtain ⟨_, sl, _⟩ := hSw; obtain ⟨lb2, lo2, z2, le2, hz2, u0, u1, u2⟩ := per_at sl at1 hatn; cases le2; rw [Hpa.out] at hz2; obtain rfl := Option.some.inj hz2; clear sl)
      go_simp
      all_goals (try with_reducible rfl)
    (try simp only [Act.put, gA, gB, gC, gD, gE, gF])
    refine wpAnyH_take (i := 9) (v := ?_) rfl (by kernel_rfl) (by kernel_rfl) (by kernel_rfl) (fun _ _ _ h => h) (Or.inl ⟨by rfl, ?_⟩) hHeld ?_
    rotate_left
    · intro w9 hSw
      (obtain ⟨_, sl, _⟩ := hSw; obtain ⟨lb2, lo2, z2, le2, hz2, u0, u1, u2⟩ := per_at sl at1 hatn; cases le2; rw [Hpa.out] at hz2; obtain rfl := Option.some.inj hz2; clear sl)
      go_simp
      all_goals (try with_reducible rfl)
    (try simp only [Act.put, gA, gB, gC, gD, gE, gF])
    refine wpAnyH_take (i := 10) (v := ?_) rfl (by kernel_rfl) (by kernel_rfl) (by kernel_rfl) (fun _ _ _ h => h) (Or.inl ⟨by rfl, ?_⟩) hHeld ?_
    rotate_left
    · intro w9 hSw
      (obtain ⟨_, sl, _⟩ := hSw; obtain ⟨lb2, lo2, z2, le2, hz2, u0, u1, u2⟩ := per_at sl at1 hatn; cases le2; rw [Hpa.out] at hz2; obtain rfl := Option.some.inj hz2; clear sl)
      go_simp
      all_goals (try with_reducible rfl)
    (try simp only [Act.put, gA, gB, gC, gD, gE, gF])
    refine wpAnyH_take (i := 11) (v := ?_) rfl (by kernel_rfl) (by kernel_rfl) (by kernel_rfl) (fun _ _ _ h => h) (Or.inl ⟨by rfl, ?_⟩) hHeld ?_
    rotate_left
    · intro w9 hSw
      (obtain ⟨_, sl, _⟩ := hSw; obtain ⟨lb2, lo2, z2, le2, hz2, u0, u1, u2⟩ := per_at sl at1 hatn; cases le2; rw [Hpa.out] at hz2; obtain rfl := Option.some.inj hz2; clear sl)
      go_simp
      all_goals (try with_reducible rfl)
    (try simp only [Act.put, gA, gB, gC, gD, gE, gF])
    refine wpAnyH_take (i := 12) (v := ?_) rfl (by kernel_rfl) (by kernel_rfl) (by kernel_rfl) (fun _ _ _ h => h) (Or.inl ⟨by rfl, ?_⟩) hHeld ?_
    rotate_left
    · intro w9 hSw
      (obtain ⟨_, sl, _⟩ := hSw; obtain ⟨lb2, lo2, z2, le2, hz2, u0, u1, u2⟩ := per_at sl at1 hatn; cases le2; rw [Hpa.out] at hz2; obtain rfl := Option.some.inj hz2; clear sl)
      go_simp
      all_goals (try with_reducible rfl)
    (try simp only [Act.put, gA, gB, gC, gD, gE, gF])
    refine wpAnyH_take (i := 13) (v := ?_) rfl (by kernel_rfl) (by kernel_rfl) (by kernel_rfl) (fun _ _ _ h => h) (Or.inl ⟨by rfl, ?_⟩) hHeld ?_
    rotate_left
    · intro w9 hSw
      (obtain ⟨_, sl, _⟩ := hSw; obtain ⟨lb2, lo2, z2, le2, hz2, u0, u1, u2⟩ := per_at sl at1 hatn; cases le2; rw [Hpa.out] at hz2; obtain rfl := Option.some.inj hz2; clear sl)
      go_simp
      all_goals (try with_reducible rfl)
    (try simp only [Act.put, gA, gB, gC, gD, gE, gF])
    refine wpAnyH_take (i := 14) (v := ?_) rfl (by kernel_rfl) (by kernel_rfl) (by kernel_rfl) (fun _ _ _ h => h) (Or.inl ⟨by rfl, ?_⟩) hHeld ?_
    rotate_left
    · intro w9 hSw
      (obtain ⟨_, sl, _⟩ := hSw; obtain ⟨lb2, lo2, z2, le2, hz2, u0, u1, u2⟩ := per_at sl at1 hatn; cases le2; rw [Hpa.out] at hz2; obtain rfl := Option.some.inj hz2; clear sl)
      go_simp
      all_goals (try with_reducible rfl)
    (try simp only [Act.put, gA, gB, gC, gD, gE, gF])
    refine wpAnyH_take (i := 15) (v := ?_) rfl (by kernel_rfl) (by kernel_rfl) (by kernel_rfl) (fun _ _ _ h => h) (Or.inl ⟨by rfl, ?_⟩) hHeld ?_
    rotate_left
    · intro w9 hSw
      (obtain ⟨_, sl, _⟩ := hSw; obtain ⟨lb2, lo2, z2, le2, hz2, u0, u1, u2⟩ := per_at sl at1 hatn; cases le2; rw [Hpa.out] at hz2; obtain rfl := Option.some.inj hz2; clear sl)
      go_simp
      all_goals (try with_reducible rfl)
    (try simp only [Act.put, gA, gB, gC, gD, gE, gF])
    refine wpAnyH_take (i := 16) (v := ?_) rfl (by kernel_rfl) (by kernel_rfl) (by kernel_rfl) (fun _ _ _ h => h) (Or.inl ⟨by rfl, ?_⟩) hHeld ?_
    rotate_left
    · intro w9 hSw
      (obtain ⟨_, sl, _⟩ := hSw; obtain ⟨lb2, lo2, z2, le2, hz2, u0, u1, u2⟩ := per_at sl at1 hatn; cases le2; rw [Hpa.out] at hz2; obtain rfl := Option.some.inj hz2; clear sl)
      go_simp
      all_goals (try with_reducible rfl)
    (try simp only [Act.put, gA, gB, gC, gD, gE, gF])
    refine wpAnyH_take (i := 17) (v := ?_) rfl (by kernel_rfl) (by kernel_rfl) (by kernel_rfl) (fun _ _ _ h => h) (Or.inl ⟨by rfl, ?_⟩) hHeld ?_
    rotate_left
    · intro w9 hSw
      (obtain ⟨_, sl, _⟩ := hSw; obtain ⟨lb2, lo2, z2, le2, hz2, u0, u1, u2⟩ := per_at sl at1 hatn; cases le2; rw [Hpa.out] at hz2; obtain rfl := Option.some.inj hz2; clear sl)
      go_simp
      all_goals (try with_reducible rfl)
    (try simp only [Act.put, gA, gB, gC, gD, gE, gF])
    refine wpAnyH_take (i := 18) (v := ?_) rfl (by kernel_rfl) (by kernel_rfl) (by kernel_rfl) (fun _ _ _ h => h) (Or.inl ⟨by rfl, ?_⟩) hHeld ?_
    rotate_left
    · intro w9 hSw
      (obtain ⟨_, sl, _⟩ := hSw; obtain ⟨lb2, lo2, z2, le2, hz2, u0, u1, u2⟩ := per_at sl at1 hatn; cases le2; rw [Hpa.out] at hz2; obtain rfl := Option.some.inj hz2; clear sl)
      go_simp
      all_goals (try with_reducible rfl)
    (try simp only [Act.put, gA, gB, gC, gD, gE, gF])
    (try simp only [u2])
    refine wpAnyH_ready (rs := [19, 20]) (by kernel_rfl) (by simp) ?_
    refine AllReadyH.cons rfl (fun K' hK' => ?_) (AllReadyH.cons rfl (fun K' hK' => ?_) AllReadyH.nil)
    · go_simp
      refine (HGr.out _).mono ?_
      rintro e' wq ⟨rfl, hg⟩
      (try simp only [])
      refine hK'.out _ _ ⟨Nat.le_trans hHeld.1 (gr_le hg), hHeld.2.1.keep0 hg, gr_trans0 hHeld.2.2 hg⟩ (fun hHeldN => ?_)
      have hHeld := hHeldN
      try (have hbD := blk_keep hbD hg (by simp))
      clear hK' K' hHeldN hg
      (try simp only [Act.put, gA, gB, gC, gD, gE, gF])
      refine wpAnyH_ready (rs := [20]) (by kernel_rfl) (by simp) ?_
      refine AllReadyH.cons rfl (fun K' hK' => ?_) AllReadyH.nil
      go_simp
      have hHeldP := hHeld
      refine hK'.out _ _ ⟨Nat.le_trans hHeld.1 (by simp), hHeld.2.1.keep0 (gr_alloc (gr0 _) _), gr_alloc hHeld.2.2 _⟩ (fun hHeldC => ?_)
      have hbD := heap_alloc_new wq (.cells #[.int .i64 0, .int .i64 0] 87)
      have hHeld := hHeldC
      clear hK' K' hHeldC
      (try simp only [Act.put, gA, gB, gC, gD, gE, gF])
      have e0 := blk_cell hbD 0 _ rfl
      have e1 := blk_cell hbD 1 _ rfl
      have k0 := blk_frozen hbD 0
      have k1 := blk_frozen hbD 1
      refine wpAnyH_ready (rs := [21]) (by kernel_rfl) (by simp) ?_
      refine AllReadyH.cons rfl (fun K' hK' => ?_) AllReadyH.nil
      go_simp
      refine hK'.out _ _ ⟨Nat.le_trans hHeldP.1 (by simp), hHeldP.2.1.keep0 (gr_alloc (gr0 _) _), gr_alloc hHeldP.2.2 _⟩ (fun hHeldF => ?_)
      clear hK' K'
      (try simp only [Act.put, gA, gB, gC, gD, gE, gF])
      refine wpAnyH_done (by kernel_rfl) ?_ _
      go_wp2_with fail
      go_meet
      exact ⟨wq.heap.size, rfl, heap_alloc_new _ _, hHeldP.1, hHeldF.2.2⟩
    · go_simp
      have hHeldP := hHeld
      refine hK'.out _ _ ⟨Nat.le_trans hHeld.1 (by simp), hHeld.2.1.keep0 (gr_alloc (gr0 _) _), gr_alloc hHeld.2.2 _⟩ (fun hHeldC => ?_)
      have hbD := heap_alloc_new w3.drew (.cells #[.int .i64 0, .int .i64 0] 87)
      have hHeld := hHeldC
      clear hK' K' hHeldC
      (try simp only [Act.put, gA, gB, gC, gD, gE, gF])
      refine wpAnyH_ready (rs := [19]) (by kernel_rfl) (by simp) ?_
      refine AllReadyH.cons rfl (fun K' hK' => ?_) AllReadyH.nil
      go_simp
      refine (HGr.out _).mono ?_
      rintro e' wq ⟨rfl, hg⟩
      (try simp only [])
      refine hK'.out _ _ ⟨Nat.le_trans hHeld.1 (gr_le hg), hHeld.2.1.keep0 hg, gr_trans0 hHeld.2.2 hg⟩ (fun hHeldN => ?_)
      have hHeld := hHeldN
      try (have hbD := blk_keep hbD hg (by simp))
      clear hK' K' hHeldN hg
      (try simp only [Act.put, gA, gB, gC, gD, gE, gF])
      have hbD : wq.heap[w3.heap.size]? = _ := hbD
      have e0 := blk_cell hbD 0 _ rfl
      have e1 := blk_cell hbD 1 _ rfl
      have k0 := blk_frozen hbD 0
      have k1 := blk_frozen hbD 1
      refine wpAnyH_ready (rs := [21]) (by kernel_rfl) (by simp) ?_
      refine AllReadyH.cons rfl (fun K' hK' => ?_) AllReadyH.nil
      go_simp
      refine hK'.out _ _ ⟨by have := hHeld.1; simpa [World.setCell] using this, (hHeld.2.1.keep (gr_setCell (r := some w3.heap.size) (p := ⟨w3.heap.size, 0, none⟩) (gr_refl _ _) (.inl rfl) _) (fun _ _ _ e e2 => by cases e; cases e2; omega)).keep (gr_setCell (r := some w3.heap.size) (p := ⟨w3.heap.size, 1, none⟩) (gr_refl _ _) (.inl rfl) _) (fun _ _ _ e e2 => by cases e; cases e2; omega), gr_setCell (p := ⟨w3.heap.size, 1, none⟩) (gr_setCell (p := ⟨w3.heap.size, 0, none⟩) hHeld.2.2 (.inr (Nat.le_refl _)) _) (.inr (Nat.le_refl _)) _⟩ (fun hHeldF => ?_)
      clear hK' K'
      (try simp only [Act.put, gA, gB, gC, gD, gE, gF])
      refine wpAnyH_done (by kernel_rfl) ?_ _
      go_wp2_with fail
      go_meet
      exact ⟨w3.heap.size, rfl, by rw [blk_set (blk_set hbD 0 _) 1 _]; rfl, Nat.le_refl _, hHeldF.2.2⟩
  case rest =>
    obtain ⟨G, rfl, hbG, hge, hgC⟩ := hcut
    generalize wc = W at *
    clear u1 u2
    have Hgr0 := hid (gr_trans0 Hg3.out hgC)
    have Hsf := hid (Hsf3.out.keep0 hgC)
    have Hz := hid (blk_keep Hz3.out hgC (by simp))
    have HbG := hid hbG
    have hfG : fb < G := by omega
    have hwG : w.heap.size + 1 < G := by have := blk_lt Hz3.out; omega
    have hGl := blk_lt hbG
    clear hbG hgC
    have hne : ¬ fc = at1 := by omega
    obtain ⟨m, hm⟩ : ∃ m, fn = at1 + m := ⟨fn - at1, by omega⟩
    have Htl := hid (show Sl flowL W (some ⟨fb, fo + at1 * 2, none⟩) (fn - at1) (tailF b day) by rw [Htail.out]; exact Hsf.out.drop at1 _ rfl)
    subst hm
    rw [show at1 + m - at1 = m by omega] at Htl
    have hm1 : 1 ≤ m := by omega
    have Hml := hid Htl.out.len
    go_wp2_with fail
    go_loopw [12, 13, 60] (fun s q i wr => ∃ k : Nat, k ≤ m ∧ i = .int .i64 k ∧ s = .int .i64 (sumD (discL y lf df) 0 ((tailF b day).take k)) ∧ q = .int .i64 (sumD (discH y lf df) 0 ((tailF b day).take k)) ∧ Hid (wr.heap[G]? = some (.cells #[.int .i64 (growL y lf df k), .int .i64 (growH y lf df k)] 87 (0, 0))) ∧ W.grownBy wr (some G)) (fun _ _ i _ => m - (intOf i).toNat)
    case atStart => exact ⟨0, by omega, rfl, rfl, rfl, HbG, gr_refl _ _⟩
    case round =>
      clear HbG
      obtain ⟨k, hk, rfl, rfl, rfl, HbG, hgr⟩ := hrel
      have Hgr := hid hgr
      clear hgr
      by_cases hlt : k < m
      · obtain ⟨b9, o9, x, e9, hx, l0, l1⟩ := flow_at (Htl.out.keep Hgr.out (fun _ b off e e2 => by cases e; cases e2; omega)) k hlt
        cases e9
        have HP := HPx.out k x hx
        obtain ⟨a0, a1, dl0, dl1, dl2, g0, g1, g2, p0, p1, q0, q1, es, eh⟩ := HP
        obtain ⟨⟨s0, s1⟩, t0, t1⟩ := HPs.out k (by rw [Hml.out]; omega)
        have Es := hid es; have Eh := hid eh
        have HTh := hid (fun wx => through_any (growL y lf df k) (growH y lf df k) wx g0 g1 g2)
        rw [← Hdl.out k, ← Hdh.out k] at HTh
        have HTm := hid (fun wx => times_any (growL y lf df k) (growH y lf df k) (1000000 + y) wx g0 g1 g2 (by omega) (by omega))
        rw [← Hgl.out k, ← Hgh.out k] at HTm
        have ki0 : (0 : Int) ≤ k := by omega
        have ki1 : (k : Int) < m := by omega
        have hX := heap_alloc_new wr (.cells #[.int .i64 x.day, .int .i64 x.amount] 95)
        have hbX := blk_alloc HbG.out (.cells #[.int .i64 x.day, .int .i64 x.amount] 95)
        have hgX : W.grownBy (wr.alloc (.cells #[.int .i64 x.day, .int .i64 x.amount] 95)) (some G) := gr_alloc Hgr.out _
        have hGX := blk_lt HbG.out
        clear es eh hx
        obtain ⟨gl2, hgl2⟩ : ∃ v, v = growL y lf df (k + 1) := ⟨_, rfl⟩
        obtain ⟨gh2, hgh2⟩ : ∃ v, v = growH y lf df (k + 1) := ⟨_, rfl⟩
        rw [← hgl2, ← hgh2] at HTm
        have Hgl2 := hid hgl2; have Hgh2 := hid hgh2
        clear hgl2 hgh2
        generalize discL y lf df k = dl at *
        generalize discH y lf df k = dh at *
        generalize growL y lf df k = gl at *
        generalize growH y lf df k = gh at *
        generalize sumD (discL y lf df) 0 ((tailF b day).take k) = sL at *
        generalize sumD (discH y lf df) 0 ((tailF b day).take k) = sH at *
        go_upto_region 10 with fail
        obtain ⟨X, hXe⟩ : ∃ X, X = wr.heap.size := ⟨_, rfl⟩
        rw [← hXe] at hX hGX ⊢
        generalize (wr.alloc (.cells #[.int .i64 x.day, .int .i64 x.amount] 95)) = V at *
        have HX := hid hX; have HbX := hid hbX; have HgX := hid hgX
        have hXV := blk_lt hX
        clear hXe hX hbX hgX l0 l1
        go_cut [17, 18] from 64 to 69 (fun v e wx => ∃ Q, v = .pointer (some ⟨Q, 0, none⟩) ∧ wx.heap[Q]? = some (.cells #[.int .i64 dl, .int .i64 dh] 87 (0, 0)) ∧ V.heap.size ≤ Q ∧ V.grownBy wx none)
        case first =>
          refine wp_region_held_drew (S := fun w' => w'.heap[G]? = some (.cells #[.int .i64 gl, .int .i64 gh] 87 (0, 0)) ∧ V.grownBy w' none) (by kernel_rfl) ⟨HbX.out, gr_drew (gr0 _)⟩ (fun hHeld => ?_)
          refine wpAnyH_take (i := 1) (v := ?_) rfl (by kernel_rfl) (by kernel_rfl) (by kernel_rfl) (fun _ _ _ h => h) (Or.inl ⟨by rfl, ?_⟩) hHeld ?_
          rotate_left
          · intro w9 hSw
            (obtain ⟨sb, _⟩ := hSw; have s0 := blk_cell sb 0 _ rfl; have s1 := blk_cell sb 1 _ rfl; clear sb)
            go_simp
            all_goals (try with_reducible rfl)
          (try simp only [Act.put, gA, gB, gC, gD, gE, gF])
          refine wpAnyH_ready (rs := [0, 6]) (by kernel_rfl) (by simp) ?_
          refine AllReadyH.cons rfl (fun K' hK' => ?_) (AllReadyH.cons rfl (fun K' hK' => ?_) AllReadyH.nil)
          · go_simp
            refine (exactly_any 1000000 _).mono ?_
            rintro e' wq ⟨rfl, hg⟩
            (try simp only [])
            refine hK'.out _ _ ⟨blk_keep hHeld.1 hg (by simp), gr_trans0 hHeld.2 hg⟩ (fun hHeldN => ?_)
            have hHeld := hHeldN
            try (have hbD := blk_keep hbD hg (by simp))
            clear hK' K' hHeldN hg
            (try simp only [Act.put, gA, gB, gC, gD, gE, gF])
            refine wpAnyH_ready (rs := [2, 6]) (by kernel_rfl) (by simp) ?_
            refine AllReadyH.cons rfl (fun K' hK' => ?_) (AllReadyH.cons rfl (fun K' hK' => ?_) AllReadyH.nil)
            · go_simp
              refine (HTh.out _).mono ?_
              rintro e' wq ⟨rfl, hg⟩
              (try simp only [])
              refine hK'.out _ _ ⟨blk_keep hHeld.1 hg (by simp), gr_trans0 hHeld.2 hg⟩ (fun hHeldN => ?_)
              have hHeld := hHeldN
              try (have hbD := blk_keep hbD hg (by simp))
              clear hK' K' hHeldN hg
              (try simp only [Act.put, gA, gB, gC, gD, gE, gF])
              refine wpAnyH_take (i := 3) (v := ?_) rfl (by kernel_rfl) (by kernel_rfl) (by kernel_rfl) (fun _ _ _ h => h) (Or.inl ⟨by rfl, ?_⟩) hHeld ?_
              rotate_left
              · intro w9 hSw
                clear hSw
                go_simp
                all_goals (try with_reducible rfl)
              (try simp only [Act.put, gA, gB, gC, gD, gE, gF])
              refine wpAnyH_take (i := 4) (v := ?_) rfl (by kernel_rfl) (by kernel_rfl) (by kernel_rfl) (fun _ _ _ h => h) (Or.inl ⟨by rfl, ?_⟩) hHeld ?_
              rotate_left
              · intro w9 hSw
                clear hSw
                go_simp
                all_goals (try with_reducible rfl)
              (try simp only [Act.put, gA, gB, gC, gD, gE, gF])
              refine wpAnyH_take (i := 5) (v := ?_) rfl (by kernel_rfl) (by kernel_rfl) (by kernel_rfl) (fun _ _ _ h => h) (Or.inl ⟨by rfl, ?_⟩) hHeld ?_
              rotate_left
              · intro w9 hSw
                clear hSw
                go_simp
                all_goals (try with_reducible rfl)
              (try simp only [Act.put, gA, gB, gC, gD, gE, gF])
              refine wpAnyH_ready (rs := [6]) (by kernel_rfl) (by simp) ?_
              refine AllReadyH.cons rfl (fun K' hK' => ?_) AllReadyH.nil
              go_simp
              have hHeldP := hHeld
              refine hK'.out _ _ ⟨blk_alloc hHeld.1 _, gr_alloc hHeld.2 _⟩ (fun hHeldC => ?_)
              have hbD := heap_alloc_new wq (.cells #[.int .i64 0, .int .i64 0] 87)
              have hHeld := hHeldC
              clear hK' K' hHeldC
              (try simp only [Act.put, gA, gB, gC, gD, gE, gF])
              have e0 := blk_cell hbD 0 _ rfl
              have e1 := blk_cell hbD 1 _ rfl
              have k0 := blk_frozen hbD 0
              have k1 := blk_frozen hbD 1
              refine wpAnyH_ready (rs := [7]) (by kernel_rfl) (by simp) ?_
              refine AllReadyH.cons rfl (fun K' hK' => ?_) AllReadyH.nil
              go_simp
              refine hK'.out _ _ ⟨blk_alloc hHeldP.1 _, gr_alloc hHeldP.2 _⟩ (fun hHeldF => ?_)
              clear hK' K'
              (try simp only [Act.put, gA, gB, gC, gD, gE, gF])
              refine wpAnyH_take (i := 8) (v := ?_) rfl (by kernel_rfl) (by kernel_rfl) (by kernel_rfl) (fun _ _ _ h => h) (Or.inl ⟨by rfl, ?_⟩) hHeldF ?_
              rotate_left
              · intro w9 hSw
                clear hSw
                go_simp
                all_goals (try with_reducible rfl)
              (try simp only [Act.put, gA, gB, gC, gD, gE, gF])
              refine wpAnyH_done (by kernel_rfl) ?_ _
              go_wp2_with fail
              go_meet
              exact ⟨wq.heap.size, rfl, heap_alloc_new _ _, gr_le hHeldP.2, hHeldF.2⟩
            · go_simp
              have hHeldP := hHeld
              refine hK'.out _ _ ⟨blk_alloc hHeld.1 _, gr_alloc hHeld.2 _⟩ (fun hHeldC => ?_)
              have hbD := heap_alloc_new wq (.cells #[.int .i64 0, .int .i64 0] 87)
              have hHeld := hHeldC
              clear hK' K' hHeldC
              (try simp only [Act.put, gA, gB, gC, gD, gE, gF])
              have hle := gr_le hHeldP.2
              refine wpAnyH_ready (rs := [2]) (by kernel_rfl) (by simp) ?_
              refine AllReadyH.cons rfl (fun K' hK' => ?_) AllReadyH.nil
              obtain ⟨D, hD⟩ : ∃ D, D = wq.heap.size := ⟨_, rfl⟩
              rw [← hD] at hbD hle ⊢
              clear hD
              go_simp
              refine (HTh.out _).mono ?_
              rintro e' wq ⟨rfl, hg⟩
              (try simp only [])
              refine hK'.out _ _ ⟨blk_keep hHeld.1 hg (by simp), gr_trans0 hHeld.2 hg⟩ (fun hHeldN => ?_)
              have hHeld := hHeldN
              try (have hbD := blk_keep hbD hg (by simp))
              clear hK' K' hHeldN hg
              (try simp only [Act.put, gA, gB, gC, gD, gE, gF])
              refine wpAnyH_take (i := 3) (v := ?_) rfl (by kernel_rfl) (by kernel_rfl) (by kernel_rfl) (fun _ _ _ h => h) (Or.inl ⟨by rfl, ?_⟩) hHeld ?_
              rotate_left
              · intro w9 hSw
                clear hSw
                go_simp
                all_goals (try with_reducible rfl)
              (try simp only [Act.put, gA, gB, gC, gD, gE, gF])
              refine wpAnyH_take (i := 4) (v := ?_) rfl (by kernel_rfl) (by kernel_rfl) (by kernel_rfl) (fun _ _ _ h => h) (Or.inl ⟨by rfl, ?_⟩) hHeld ?_
              rotate_left
              · intro w9 hSw
                clear hSw
                go_simp
                all_goals (try with_reducible rfl)
              (try simp only [Act.put, gA, gB, gC, gD, gE, gF])
              refine wpAnyH_take (i := 5) (v := ?_) rfl (by kernel_rfl) (by kernel_rfl) (by kernel_rfl) (fun _ _ _ h => h) (Or.inl ⟨by rfl, ?_⟩) hHeld ?_
              rotate_left
              · intro w9 hSw
                clear hSw
                go_simp
                all_goals (try with_reducible rfl)
              (try simp only [Act.put, gA, gB, gC, gD, gE, gF])
              have e0 := blk_cell hbD 0 _ rfl
              have e1 := blk_cell hbD 1 _ rfl
              have k0 := blk_frozen hbD 0
              have k1 := blk_frozen hbD 1
              refine wpAnyH_ready (rs := [7]) (by kernel_rfl) (by simp) ?_
              refine AllReadyH.cons rfl (fun K' hK' => ?_) AllReadyH.nil
              go_simp
              have hDG : ¬ D = G := by omega
              refine hK'.out _ _ ⟨blk_set_other (blk_set_other hHeld.1 _ hDG _) _ hDG _, gr_setCell (p := ⟨D, 1, none⟩) (gr_setCell (p := ⟨D, 0, none⟩) hHeld.2 (.inr hle) _) (.inr hle) _⟩ (fun hHeldF => ?_)
              clear hK' K'
              (try simp only [Act.put, gA, gB, gC, gD, gE, gF])
              refine wpAnyH_take (i := 8) (v := ?_) rfl (by kernel_rfl) (by kernel_rfl) (by kernel_rfl) (fun _ _ _ h => h) (Or.inl ⟨by rfl, ?_⟩) hHeldF ?_
              rotate_left
              · intro w9 hSw
                clear hSw
                go_simp
                all_goals (try with_reducible rfl)
              (try simp only [Act.put, gA, gB, gC, gD, gE, gF])
              refine wpAnyH_done (by kernel_rfl) ?_ _
              go_wp2_with fail
              go_meet
              exact ⟨D, rfl, by rw [blk_set (blk_set hbD 0 _) 1 _]; rfl, hle, hHeldF.2⟩
          · go_simp
            have hHeldP := hHeld
            refine hK'.out _ _ ⟨blk_alloc hHeld.1 _, gr_alloc hHeld.2 _⟩ (fun hHeldC => ?_)
            have hbD := heap_alloc_new V.drew (.cells #[.int .i64 0, .int .i64 0] 87)
            have hHeld := hHeldC
            clear hK' K' hHeldC
            (try simp only [Act.put, gA, gB, gC, gD, gE, gF])
            have hle : V.heap.size ≤ V.heap.size := Nat.le_refl _
            obtain ⟨D, hD⟩ : ∃ D, D = V.heap.size := ⟨_, rfl⟩
            have hbD : (V.drew.alloc (.cells #[.int .i64 0, .int .i64 0] 87)).heap[V.heap.size]? = _ := hbD
            rw [← hD] at hbD
            have hle : V.heap.size ≤ D := by omega
            refine wpAnyH_ready (rs := [0]) (by kernel_rfl) (by simp) ?_
            refine AllReadyH.cons rfl (fun K' hK' => ?_) AllReadyH.nil
            rw [← hD]
            clear hD
            go_simp
            refine (exactly_any 1000000 _).mono ?_
            rintro e' wq ⟨rfl, hg⟩
            (try simp only [])
            refine hK'.out _ _ ⟨blk_keep hHeld.1 hg (by simp), gr_trans0 hHeld.2 hg⟩ (fun hHeldN => ?_)
            have hHeld := hHeldN
            try (have hbD := blk_keep hbD hg (by simp))
            clear hK' K' hHeldN hg
            (try simp only [Act.put, gA, gB, gC, gD, gE, gF])
            refine wpAnyH_ready (rs := [2]) (by kernel_rfl) (by simp) ?_
            refine AllReadyH.cons rfl (fun K' hK' => ?_) AllReadyH.nil
            go_simp
            refine (HTh.out _).mono ?_
            rintro e' wq ⟨rfl, hg⟩
            (try simp only [])
            refine hK'.out _ _ ⟨blk_keep hHeld.1 hg (by simp), gr_trans0 hHeld.2 hg⟩ (fun hHeldN => ?_)
            have hHeld := hHeldN
            try (have hbD := blk_keep hbD hg (by simp))
            clear hK' K' hHeldN hg
            (try simp only [Act.put, gA, gB, gC, gD, gE, gF])
            refine wpAnyH_take (i := 3) (v := ?_) rfl (by kernel_rfl) (by kernel_rfl) (by kernel_rfl) (fun _ _ _ h => h) (Or.inl ⟨by rfl, ?_⟩) hHeld ?_
            rotate_left
            · intro w9 hSw
              clear hSw
              go_simp
              all_goals (try with_reducible rfl)
            (try simp only [Act.put, gA, gB, gC, gD, gE, gF])
            refine wpAnyH_take (i := 4) (v := ?_) rfl (by kernel_rfl) (by kernel_rfl) (by kernel_rfl) (fun _ _ _ h => h) (Or.inl ⟨by rfl, ?_⟩) hHeld ?_
            rotate_left
            · intro w9 hSw
              clear hSw
              go_simp
              all_goals (try with_reducible rfl)
            (try simp only [Act.put, gA, gB, gC, gD, gE, gF])
            refine wpAnyH_take (i := 5) (v := ?_) rfl (by kernel_rfl) (by kernel_rfl) (by kernel_rfl) (fun _ _ _ h => h) (Or.inl ⟨by rfl, ?_⟩) hHeld ?_
            rotate_left
            · intro w9 hSw
              clear hSw
              go_simp
              all_goals (try with_reducible rfl)
            (try simp only [Act.put, gA, gB, gC, gD, gE, gF])
            have e0 := blk_cell hbD 0 _ rfl
            have e1 := blk_cell hbD 1 _ rfl
            have k0 := blk_frozen hbD 0
            have k1 := blk_frozen hbD 1
            refine wpAnyH_ready (rs := [7]) (by kernel_rfl) (by simp) ?_
            refine AllReadyH.cons rfl (fun K' hK' => ?_) AllReadyH.nil
            go_simp
            have hDG : ¬ D = G := by omega
            refine hK'.out _ _ ⟨blk_set_other (blk_set_other hHeld.1 _ hDG _) _ hDG _, gr_setCell (p := ⟨D, 1, none⟩) (gr_setCell (p := ⟨D, 0, none⟩) hHeld.2 (.inr hle) _) (.inr hle) _⟩ (fun hHeldF => ?_)
            clear hK' K'
            (try simp only [Act.put, gA, gB, gC, gD, gE, gF])
            refine wpAnyH_take (i := 8) (v := ?_) rfl (by kernel_rfl) (by kernel_rfl) (by kernel_rfl) (fun _ _ _ h => h) (Or.inl ⟨by rfl, ?_⟩) hHeldF ?_
            rotate_left
            · intro w9 hSw
              clear hSw
              go_simp
              all_goals (try with_reducible rfl)
            (try simp only [Act.put, gA, gB, gC, gD, gE, gF])
            refine wpAnyH_done (by kernel_rfl) ?_ _
            go_wp2_with fail
            go_meet
            exact ⟨D, rfl, by rw [blk_set (blk_set hbD 0 _) 1 _]; rfl, hle, hHeldF.2⟩
        case rest =>
          obtain ⟨Q, rfl, hQ, hgeQ, hgQ⟩ := hcut
          generalize wc = U at *
          have HgU := hid (gr_trans0 HgX.out hgQ)
          have HbU := hid (blk_keep HbX.out hgQ (by simp))
          have hXU := blk_keep HX.out hgQ (by simp)
          have x0 := blk_cell hXU 0 _ rfl
          have x1 := blk_cell hXU 1 _ rfl
          have r0 := blk_cell hQ 0 _ rfl
          have r1 := blk_cell hQ 1 _ rfl
          have v1 : IntKind.i64.wrap (1000000 + y) = 1000000 + y := IntWalk.i64_in _ (by omega)
          clear hXU hQ hgQ HTh
          go_upto_region 13 with fail
          clear x0 x1 r0 r1
          have hbU := HbU.out
          have c0 := blk_cell hbU 0 _ rfl
          have c1 := blk_cell hbU 1 _ rfl
          refine wp_region_held_drew (S := fun _ => True) (by kernel_rfl) trivial (fun hHeld => ?_)
          refine wpAnyH_take (i := 1) (v := ?_) rfl (by kernel_rfl) (by kernel_rfl) (by kernel_rfl) (fun _ _ _ h => h) (Or.inl ⟨by rfl, ?_⟩) hHeld ?_
          rotate_left
          · intro w9 hSw
            clear hSw
            go_simp
            all_goals (try with_reducible rfl)
          (try simp only [Act.put, gA, gB, gC, gD, gE, gF])
          refine wpAnyH_take (i := 2) (v := ?_) rfl (by kernel_rfl) (by kernel_rfl) (by kernel_rfl) (fun _ _ _ h => h) (Or.inl ⟨by rfl, ?_⟩) hHeld ?_
          rotate_left
          · intro w9 hSw
            clear hSw
            go_simp
            all_goals (try with_reducible rfl)
          (try simp only [Act.put, gA, gB, gC, gD, gE, gF])
          (try simp only [v1])
          refine wpAnyH_ready (rs := [0, 3]) (by kernel_rfl) (by simp) ?_
          refine AllReadyH.cons rfl (fun K' hK' => ?_) (AllReadyH.cons rfl (fun K' hK' => ?_) AllReadyH.nil)
          · go_simp
            refine hK'.out _ _ trivial (fun _ => ?_)
            clear hK' K' c0 c1
            (try simp only [Act.put, gA, gB, gC, gD, gE, gF])
            refine wpAnyH_ready (rs := [3]) (by kernel_rfl) (by simp) ?_
            refine AllReadyH.cons rfl (fun K' hK' => ?_) AllReadyH.nil
            go_simp
            refine (exactly_any (1000000 + y) _).mono ?_
            rintro e' wq ⟨rfl, hg⟩
            (try simp only [])
            refine hK'.out _ _ trivial (fun _ => ?_)
            have HgA := hid (gr_trans0 (gr_drew HgU.out) hg)
            have hbA := blk_keep hbU (gr_trans0 (gr_drew (gr0 _)) hg) (by simp)
            (try clear c0 c1)
            clear hK' K' hg
            (try simp only [Act.put, gA, gB, gC, gD, gE, gF])
            refine wpAnyH_ready (rs := [4]) (by kernel_rfl) (by simp) ?_
            refine AllReadyH.cons rfl (fun K' hK' => ?_) AllReadyH.nil
            go_simp
            refine (HTm.out _).mono ?_
            rintro e' wt ⟨rfl, hg⟩
            (try simp only [])
            refine hK'.out _ _ trivial (fun _ => ?_)
            have HgB := hid (gr_trans0 HgA.out hg)
            have hbB := blk_keep hbA hg (by simp)
            (try clear c0 c1)
            clear hK' K' hg hbA
            (try simp only [Act.put, gA, gB, gC, gD, gE, gF])
            refine wpAnyH_take (i := 5) (v := ?_) rfl (by kernel_rfl) (by kernel_rfl) (by kernel_rfl) (fun _ _ _ h => h) (Or.inl ⟨by rfl, ?_⟩) hHeld ?_
            rotate_left
            · intro w9 hSw
              clear hSw
              go_simp
              all_goals (try with_reducible rfl)
            (try simp only [Act.put, gA, gB, gC, gD, gE, gF])
            refine wpAnyH_take (i := 6) (v := ?_) rfl (by kernel_rfl) (by kernel_rfl) (by kernel_rfl) (fun _ _ _ h => h) (Or.inl ⟨by rfl, ?_⟩) hHeld ?_
            rotate_left
            · intro w9 hSw
              clear hSw
              go_simp
              all_goals (try with_reducible rfl)
            (try simp only [Act.put, gA, gB, gC, gD, gE, gF])
            refine wpAnyH_take (i := 7) (v := ?_) rfl (by kernel_rfl) (by kernel_rfl) (by kernel_rfl) (fun _ _ _ h => h) (Or.inl ⟨by rfl, ?_⟩) hHeld ?_
            rotate_left
            · intro w9 hSw
              clear hSw
              go_simp
              all_goals (try with_reducible rfl)
            (try simp only [Act.put, gA, gB, gC, gD, gE, gF])
            have e0 := blk_cell hbB 0 _ rfl
            have e1 := blk_cell hbB 1 _ rfl
            have k0 := blk_frozen hbB 0
            have k1 := blk_frozen hbB 1
            refine wpAnyH_ready (rs := [8]) (by kernel_rfl) (by simp) ?_
            refine AllReadyH.cons rfl (fun K' hK' => ?_) AllReadyH.nil
            go_simp
            refine hK'.out _ _ trivial (fun _ => ?_)
            clear hK' K' e0 e1 k0 k1
            (try simp only [Act.put, gA, gB, gC, gD, gE, gF])
            refine wpAnyH_done (by kernel_rfl) ?_ _
            have HbF := hid ((blk_set (blk_set hbB 0 (.int .i64 gl2)) 1 (.int .i64 gh2)).trans (show _ = some (Obj.cells #[Value.int .i64 gl2, .int .i64 gh2] 87 (0, 0)) from rfl))
            have HgF := hid (gr_setCell (p := ⟨G, 1, none⟩) (gr_setCell (p := ⟨G, 0, none⟩) HgB.out (.inl rfl) (.int .i64 gl2)) (.inl rfl) (.int .i64 gh2))
            clear hbB hbU
            go_wp2_with fail
            go_roundw
            case rel => exact ⟨k + 1, by omega, by go_num, by rw [Es.out], by rw [Eh.out], by rw [← Hgl2.out, ← Hgh2.out]; exact HbF, HgF.out⟩
            case measure => simp [intOf]; omega
          · go_simp
            refine (exactly_any (1000000 + y) _).mono ?_
            rintro e' wq ⟨rfl, hg⟩
            (try simp only [])
            refine hK'.out _ _ trivial (fun _ => ?_)
            have HgA := hid (gr_trans0 (gr_drew HgU.out) hg)
            have hbA := blk_keep hbU (gr_trans0 (gr_drew (gr0 _)) hg) (by simp)
            (try clear c0 c1)
            clear hK' K' hg
            (try simp only [Act.put, gA, gB, gC, gD, gE, gF])
            have c0 := blk_cell hbA 0 _ rfl
            have c1 := blk_cell hbA 1 _ rfl
            refine wpAnyH_ready (rs := [0]) (by kernel_rfl) (by simp) ?_
            refine AllReadyH.cons rfl (fun K' hK' => ?_) AllReadyH.nil
            go_simp
            refine hK'.out _ _ trivial (fun _ => ?_)
            clear hK' K' c0 c1
            (try simp only [Act.put, gA, gB, gC, gD, gE, gF])
            refine wpAnyH_ready (rs := [4]) (by kernel_rfl) (by simp) ?_
            refine AllReadyH.cons rfl (fun K' hK' => ?_) AllReadyH.nil
            go_simp
            refine (HTm.out _).mono ?_
            rintro e' wt ⟨rfl, hg⟩
            (try simp only [])
            refine hK'.out _ _ trivial (fun _ => ?_)
            have HgB := hid (gr_trans0 HgA.out hg)
            have hbB := blk_keep hbA hg (by simp)
            (try clear c0 c1)
            clear hK' K' hg hbA
            (try simp only [Act.put, gA, gB, gC, gD, gE, gF])
            refine wpAnyH_take (i := 5) (v := ?_) rfl (by kernel_rfl) (by kernel_rfl) (by kernel_rfl) (fun _ _ _ h => h) (Or.inl ⟨by rfl, ?_⟩) hHeld ?_
            rotate_left
            · intro w9 hSw
              clear hSw
              go_simp
              all_goals (try with_reducible rfl)
            (try simp only [Act.put, gA, gB, gC, gD, gE, gF])
            refine wpAnyH_take (i := 6) (v := ?_) rfl (by kernel_rfl) (by kernel_rfl) (by kernel_rfl) (fun _ _ _ h => h) (Or.inl ⟨by rfl, ?_⟩) hHeld ?_
            rotate_left
            · intro w9 hSw
              clear hSw
              go_simp
              all_goals (try with_reducible rfl)
            (try simp only [Act.put, gA, gB, gC, gD, gE, gF])
            refine wpAnyH_take (i := 7) (v := ?_) rfl (by kernel_rfl) (by kernel_rfl) (by kernel_rfl) (fun _ _ _ h => h) (Or.inl ⟨by rfl, ?_⟩) hHeld ?_
            rotate_left
            · intro w9 hSw
              clear hSw
              go_simp
              all_goals (try with_reducible rfl)
            (try simp only [Act.put, gA, gB, gC, gD, gE, gF])
            have e0 := blk_cell hbB 0 _ rfl
            have e1 := blk_cell hbB 1 _ rfl
            have k0 := blk_frozen hbB 0
            have k1 := blk_frozen hbB 1
            refine wpAnyH_ready (rs := [8]) (by kernel_rfl) (by simp) ?_
            refine AllReadyH.cons rfl (fun K' hK' => ?_) AllReadyH.nil
            go_simp
            refine hK'.out _ _ trivial (fun _ => ?_)
            clear hK' K' e0 e1 k0 k1
            (try simp only [Act.put, gA, gB, gC, gD, gE, gF])
            refine wpAnyH_done (by kernel_rfl) ?_ _
            have HbF := hid ((blk_set (blk_set hbB 0 (.int .i64 gl2)) 1 (.int .i64 gh2)).trans (show _ = some (Obj.cells #[Value.int .i64 gl2, .int .i64 gh2] 87 (0, 0)) from rfl))
            have HgF := hid (gr_setCell (p := ⟨G, 1, none⟩) (gr_setCell (p := ⟨G, 0, none⟩) HgB.out (.inl rfl) (.int .i64 gl2)) (.inl rfl) (.int .i64 gh2))
            clear hbB hbU
            go_wp2_with fail
            go_roundw
            case rel => exact ⟨k + 1, by omega, by go_num, by rw [Es.out], by rw [Eh.out], by rw [← Hgl2.out, ← Hgh2.out]; exact HbF, HgF.out⟩
            case measure => simp [intOf]; omega
      · obtain rfl : k = m := by omega
        obtain ⟨⟨s0, s1⟩, t0, t1⟩ := HPs.out k (by rw [Hml.out]; omega)
        rw [take_len _ _ Hml.out] at s0 s1 t0 t1 ⊢
        have HFl := hid (fun wx => floor_any (sumD (discL y lf df) 0 (tailF b day)) 1000000 wx (by omega) (by omega) (by omega) (by omega))
        have HCe := hid (fun wx => ceil_any (sumD (discH y lf df) 0 (tailF b day)) 1000000 wx (by omega) (by omega) (by omega) (by omega))
        rw [flr_def, ← HLo.out] at HFl
        rw [← HHi.out] at HCe
        have hz1 := blk_keep Hz.out Hgr.out (by intro q e; cases e; omega)
        have z0 := blk_cell hz1 0 _ rfl
        have z1 := blk_cell hz1 1 _ rfl
        have k0 := blk_frozen hz1 0
        have k1 := blk_frozen hz1 1
        have HgF := hid (gr_own Hgr0.out Hgr.out (fun q e => by cases e; omega))
        clear hz1
        generalize sumD (discL y lf df) 0 (tailF b day) = sL at *
        generalize sumD (discH y lf df) 0 (tailF b day) = sH at *
        go_wp2_with fail
        refine (HFl.out _).mono ?_
        rintro e' w8 ⟨rfl, rfl⟩
        go_wp2_with fail
        refine (HCe.out _).mono ?_
        rintro e' w8 ⟨rfl, rfl⟩
        go_wp2_with fail
        exact bodyPost_ret (v := .tuple #[.agg #[.int .i64 (priceLo b day y), .int .i64 (priceHi b day y)], .bool true]) (by simp [results, Tryz.results89, go_sem, *]) rfl ⟨rfl, gr_setCell (p := ⟨w.heap.size + 1, 1, none⟩) (gr_setCell (p := ⟨w.heap.size + 1, 0, none⟩) HgF.out (.inr (Nat.le_succ _)) _) (.inr (Nat.le_succ _)) _⟩

theorem priceOf_any (b : Bond) (day y : Int) (w : World) (hmo : Months w) :
    Calls Tryz.prog 89 #[.agg #[.int .i64 b.start, .int .i64 b.stop, .int .i64 b.months, .int .i64 b.rate], .int .i64 day, .int .i64 y] w fun e' w' => e' = .returned (.tuple #[.agg #[.int .i64 (priceF b day y).low, .int .i64 (priceF b day y).high], .bool (priceB b day y)]) ∧ w.grownBy w' none := by
  cases h : priceB b day y with
  | false => rw [price_no h]; exact priceOfNo_any b day y w hmo h
  | true =>
    have h2 := h
    unfold priceB at h2
    simp only [Bool.and_eq_true] at h2
    obtain ⟨y0, y1⟩ := yield_facts h2.2
    rw [price_in h2.1 y0 y1]
    exact priceOfYes_any b day y w hmo (run_of h2.1) y0 y1

set_option maxHeartbeats 400000 in
theorem PriceOf_any (b : Bond) (day y : Int) (w : World) (hmo : Months w) :
    Calls Tryz.prog 57 #[.agg #[.int .i64 b.start, .int .i64 b.stop, .int .i64 b.months, .int .i64 b.rate], .int .i64 day, .int .i64 y] w fun e' w' => e' = .returned (.agg #[.int .i64 (priceF b day y).low, .int .i64 (priceF b day y).high]) ∧ w.grownBy w' none := by
  have hg0 : w.grownBy (w.alloc (.cells #[.int .i64 b.start, .int .i64 b.stop, .int .i64 b.months, .int .i64 b.rate] 37)) none := gr_alloc (gr0 _) _
  have hg00 : w.grownBy ((w.alloc (.cells #[.int .i64 b.start, .int .i64 b.stop, .int .i64 b.months, .int .i64 b.rate] 37)).alloc (.cells #[.int .i64 0, .int .i64 0] 87)) none := gr_alloc hg0 _
  have hz := heap_alloc_new (w.alloc (.cells #[.int .i64 b.start, .int .i64 b.stop, .int .i64 b.months, .int .i64 b.rate] 37)) (.cells #[.int .i64 0, .int .i64 0] 87)
  rw [World.size_alloc] at hz
  have Hz0 := hid hz
  have Hb0 := hid (blk_alloc (heap_alloc_new w (.cells #[.int .i64 b.start, .int .i64 b.stop, .int .i64 b.months, .int .i64 b.rate] 37)) (.cells #[.int .i64 0, .int .i64 0] 87))
  have HG := hid hg00
  have hm0 := hmo.keep0 hg00
  have HP := hid (priceOf_any b day y _ hm0)
  generalize (priceF b day y).low = pl at *
  generalize (priceF b day y).high = ph at *
  generalize priceB b day y = pb at *
  clear hg0 hg00 hz hm0 hmo
  go_enter Tryz.func57, Tryz.ntmps57
  go_wp2_with fail
  refine HP.out.mono ?_
  rintro e' w1 ⟨rfl, hg⟩
  have HgP := hid (gr_trans0 HG.out hg)
  have Hg1 := hid (gr_alloc (gr_trans0 HG.out hg) (Obj.cells #[.int .i64 pl, .int .i64 ph] 87))
  have hz1 := blk_keep Hz0.out hg (by simp)
  have hl1 := blk_lt hz1
  have hne : ¬ w.heap.size + 1 = w1.heap.size := by omega
  have hne2 : ¬ w1.heap.size = w.heap.size + 1 := by omega
  have z0 := blk_cell hz1 0 _ rfl
  have z1 := blk_cell hz1 1 _ rfl
  have k0 := blk_frozen hz1 0
  have k1 := blk_frozen hz1 1
  clear hz1 hg
  go_wp2_with fail
  refine bodyPost_ret (v := .agg #[.int .i64 pl, .int .i64 ph]) (by simp [results, Tryz.results57, go_sem, *]) rfl ⟨rfl, ?_⟩
  first
    | exact gr_setCell (p := ⟨w.heap.size + 1, 1, none⟩) (gr_setCell (p := ⟨w.heap.size + 1, 0, none⟩) Hg1.out (.inr (Nat.le_succ _)) _) (.inr (Nat.le_succ _)) _
    | exact gr_alloc (gr_setCell (p := ⟨w.heap.size + 1, 1, none⟩) (gr_setCell (p := ⟨w.heap.size + 1, 0, none⟩) HgP.out (.inr (Nat.le_succ _)) _) (.inr (Nat.le_succ _)) _) _

end Go.Proofs.YtielicmjdhmcjaaGreatDoor

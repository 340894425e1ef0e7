/- Packed: SpecPrice. -/
import Derived.Test.YtielicmjdhmcjaaGreatDoorRows
import Derived.Test.YtielicmjdhmcjaaGreatDoorPk41
import Derived.Test.YtielicmjdhmcjaaGreatDoorPk34
/- Prices: price and PriceOf of the reference. -/
namespace Go.Proofs.YtielicmjdhmcjaaGreatDoor
open Go.RowKit

theorem specvalidYield_any (y : Int) (w : World) : Calls Tryz.prog 108 #[.int .i64 y] w fun e w' => e = .returned (.bool (yieldB y)) ∧ w = w' := by
  go_enter Tryz.func108, Tryz.ntmps108
  go_wp2_with fail
  refine (inRange_any _ _ _ _).mono ?_
  rintro e w' ⟨rfl, rfl⟩
  go_wp2_with fail
  go_ret
  exact ⟨rfl, rfl⟩

set_option maxRecDepth 100000 in
set_option maxHeartbeats 4000000 in
theorem specprice_any (b : Bond) (day y : Int) (w : World) (h : Run b day) (y0 : 0 ≤ y) (y1 : y ≤ 100000) :
    Calls Tryz.prog 109 #[.agg #[.int .i64 b.start, .int .i64 b.stop, .int .i64 b.months, .int .i64 b.rate], .int .i64 day, .int .i64 y] w fun e' w' => e' = .returned (.agg #[.int .i64 (priceLo b day y), .int .i64 (priceHi b day y)]) ∧ w.grownBy w' none := by
  have hg0 : w.grownBy (w.alloc (.cells #[.int .i64 b.start, .int .i64 b.stop, .int .i64 b.months, .int .i64 b.rate] 37)) none := gr_alloc (gr0 _) _
  have hg00 : w.grownBy ((w.alloc (.cells #[.int .i64 b.start, .int .i64 b.stop, .int .i64 b.months, .int .i64 b.rate] 37)).alloc (.cells #[.int .i64 0, .int .i64 0] 87)) none := gr_alloc hg0 _
  have hz := heap_alloc_new (w.alloc (.cells #[.int .i64 b.start, .int .i64 b.stop, .int .i64 b.months, .int .i64 b.rate] 37)) (.cells #[.int .i64 0, .int .i64 0] 87)
  rw [World.size_alloc] at hz
  have Hz0 := hid hz
  have Hb0 := hid (blk_alloc (heap_alloc_new w (.cells #[.int .i64 b.start, .int .i64 b.stop, .int .i64 b.months, .int .i64 b.rate] 37)) (.cells #[.int .i64 0, .int .i64 0] 87))
  have HG := hid hg00
  have HPo := hid (fun wx => specperiodOf_any b day wx h.bool)
  have HSc := hid (fun wx => specsched_ok b wx h.ok)
  have HF := hid (fun wx => specflows_any b wx h.ok)
  have HPx := hid (fun k x hx => h.pxAt y0 y1 k x hx)
  have HPs := hid (fun k hk => h.pxSum y0 y1 k hk)
  obtain ⟨hpa, pf0, pf1, hpm, hpl⟩ := perAt_spec h.ok day h.d0 h.d1
  have Hpa := hid hpa
  have hpo := pers_okPer h.ok _ hpm
  have hpt0 := hpo.f0; have hpt1 := hpo.ft; have hpt2 := hpo.t1
  have hln : (persF b).length ≤ 40 := by unfold persF; rw [sched_len]; exact h.ok.span.q2
  have Hfl := hid (flows_len b)
  have Htail := hid (show tailF b day = (flowsL b).drop (atF (persF b) day) from rfl)
  have HLo := hid (show priceLo b day y = flr (sumD (discL y (leftF b day) (daysF b day)) 0 (tailF b day)) 1000000 from rfl)
  have HHi := hid (show priceHi b day y = cei (sumD (discH y (leftF b day) (daysF b day)) 0 (tailF b day)) 1000000 from rfl)
  have Hle := hid (show leftF b day = (perAt b day).till - day from rfl)
  have Hda := hid (show daysF b day = (perAt b day).till - (perAt b day).frm from rfl)
  have Hok := hid (h.okY y0 y1)
  obtain ⟨p, hp⟩ : ∃ p, perAt b day = p := ⟨_, rfl⟩
  obtain ⟨at1, hat⟩ : ∃ at1, atF (persF b) day = at1 := ⟨_, rfl⟩
  rw [hat] at Hpa hpl Htail HPo
  rw [hp] at Hpa pf0 pf1 hpt0 hpt1 hpt2 Hle Hda
  generalize leftF b day = lf at *
  generalize daysF b day = df at *
  have u1 : IntKind.i64.wrap (day - p.frm) = day - p.frm := IntWalk.i64_in _ (by omega)
  have u2 : IntKind.i64.wrap (p.till - p.frm) = df := by rw [Hda.out]; exact IntWalk.i64_in _ (by omega)
  have Hps := hid (show day - p.frm = df - lf by rw [Hda.out, Hle.out]; omega)
  have U1 := hid u1; have U2 := hid u2
  clear h hg0 hg00 hz hpa hpm hpo hp hat u1 u2
  go_enter Tryz.func109, Tryz.ntmps109
  go_wp2_with fail
  refine (HPo.out _).mono ?_
  rintro e' w1 ⟨rfl, hg⟩
  have Hg1 := hid (gr_trans0 HG.out hg)
  have Hz1 := hid (blk_keep Hz0.out hg (by simp))
  have Hb1 := hid (blk_keep Hb0.out hg (by simp))
  (try clear c0 c1 c2 c3)
  have c0 := blk_cell Hb1.out 0 _ rfl
  have c1 := blk_cell Hb1.out 1 _ rfl
  have c2 := blk_cell Hb1.out 2 _ rfl
  have c3 := blk_cell Hb1.out 3 _ rfl
  clear hg
  go_wp2_with fail
  refine (HSc.out _).mono ?_
  rintro e' w2 ⟨pa, pn, pc, rfl, ho, _, hg⟩
  have Hg2 := hid (gr_trans0 Hg1.out hg)
  have Hz2 := hid (blk_keep Hz1.out hg (by simp))
  have Hb2 := hid (blk_keep Hb1.out hg (by simp))
  have hpn : pn ≤ 40 := by have := ho.len; omega
  have hatn : at1 < pn := by have := ho.len; omega
  have Hpl := hid (show (persF b).length = pn from ho.len)
  have Hsp2 := hid ho.sl
  (try clear c0 c1 c2 c3)
  have c0 := blk_cell Hb2.out 0 _ rfl
  have c1 := blk_cell Hb2.out 1 _ rfl
  have c2 := blk_cell Hb2.out 2 _ rfl
  have c3 := blk_cell Hb2.out 3 _ rfl
  clear ho hg hpl hln
  go_wp2_with fail
  refine (HF.out _).mono ?_
  rintro e' w3 ⟨fa, fn, fc, rfl, ho, _, hg⟩
  have Hg3 := hid (gr_trans0 Hg2.out hg)
  have Hz3 := hid (blk_keep Hz2.out hg (by simp))
  have Hsp3 := hid (Hsp2.out.keep0 hg)
  have Hsf3 := hid ho.sl
  obtain rfl : fn = pn := by have := ho.len; have := Hfl.out; have := Hpl.out; omega
  clear ho hg c0 c1 c2 c3
  have hi0 : (0 : Int) ≤ at1 := by omega
  have hi1 : (at1 : Int) < fn := by omega
  obtain ⟨pb, po, _, rfl, _, hpb, _⟩ := Hsp3.out.at 0 (by omega)
  have Htl : Hid ((tailF b day).length = fn - at1) := hid (by rw [Htail.out, List.length_drop, Hsf3.out.len])
  go_wp2_with fail
  go_loopw [10, 11, 12] (fun s q i wr => ∃ j : Nat, at1 ≤ j ∧ j ≤ fn ∧ i = .int .i64 j ∧ s = .int .i64 (sumD (discL y lf df) 0 ((tailF b day).take (j - at1))) ∧ q = .int .i64 (sumD (discH y lf df) 0 ((tailF b day).take (j - at1))) ∧ w3.grownBy wr none) (fun _ _ i _ => fn - (intOf i).toNat)
  case atStart => exact ⟨at1, by omega, by omega, rfl, by rw [Nat.sub_self]; rfl, by rw [Nat.sub_self]; rfl, gr0 _⟩
  case round =>
    obtain ⟨j, hja, hjn, rfl, rfl, rfl, hgr⟩ := hrel
    have Hgr := hid hgr
    clear hgr
    obtain ⟨k, hk⟩ : ∃ k, k = j - at1 := ⟨_, rfl⟩
    rw [← hk]
    by_cases hlt : j < fn
    · obtain ⟨fb, fo, x, rfl, hx, l0, l1⟩ := flow_at (Hsf3.out.keep0 Hgr.out) j hlt
      have hxt : (tailF b day)[k]? = some x := by rw [Htail.out, List.getElem?_drop, show at1 + k = j by omega]; exact hx
      have HP := HPx.out k x hxt
      obtain ⟨a0, a1, dl0, dl1, dl2, _, _, _, p0, p1, q0, q1, es, eh⟩ := HP
      obtain ⟨⟨s0, s1⟩, t0, t1⟩ := HPs.out k (by have := lt_of_at hxt; omega)
      have Es := hid (show sumD (discL y lf df) 0 ((tailF b day).take (j + 1 - at1)) = sumD (discL y lf df) 0 ((tailF b day).take k) + x.amount * discL y lf df k by rw [show j + 1 - at1 = k + 1 by omega]; exact es)
      have Eh := hid (show sumD (discH y lf df) 0 ((tailF b day).take (j + 1 - at1)) = sumD (discH y lf df) 0 ((tailF b day).take k) + x.amount * discH y lf df k by rw [show j + 1 - at1 = k + 1 by omega]; exact eh)
      have HDi := hid (fun wx => discount_any y (day - p.frm) lf df k wx Hok.out Hps.out (by omega))
      have w3' : IntKind.i64.wrap ((j : Int) - at1) = (k : Int) := by rw [show (j : Int) - at1 = k by omega]; exact IntWalk.i64_in _ (by omega)
      have hj0 : (0 : Int) ≤ j := by omega
      have hj1 : (j : Int) < fn := by omega
      have Hl0 := hid l0; have Hl1 := hid l1
      have Hsp := hid (Hsp3.out.keep0 Hgr.out)
      clear es eh hx hxt l0 l1
      generalize discL y lf df k = dl at *
      generalize discH y lf df k = dh at *
      generalize sumD (discL y lf df) 0 ((tailF b day).take k) = sL at *
      generalize sumD (discH y lf df) 0 ((tailF b day).take k) = sH at *
      go_upto_region 9 with fail
      go_cut [13] from 33 to 55 (fun v wx => ∃ Q, v = .pointer (some ⟨Q, 0, none⟩) ∧ wx.heap[Q]? = some (.cells #[.int .i64 dl, .int .i64 dh] 87 (0, 0)) ∧ wr.heap.size ≤ Q ∧ wr.grownBy wx none)
      case first =>
        have u1 := U1.out; have u2 := U2.out
        obtain ⟨lb2, lo2, z2, le2, hz2, q0', q1', _⟩ := per_at Hsp.out at1 hatn
        cases le2
        rw [Hpa.out] at hz2
        obtain rfl := Option.some.inj hz2
        clear hz2
        have Hk := hid hk
        clear hk Hz0 Hb0 HG HSc HF Hfl HPo Htail HPx HPs HLo HHi Hle Hda Hz1 Hb1 Hg1 Hz2 Hb2 Hg2 Hz3 Hg3 Htl Hpl Es Eh Hl0 Hl1 s0 s1 t0 t1 a0 a1 dl0 dl1 dl2 p0 p1 q0 q1 hpt0 hpt1 hpt2 pf0 pf1 y0 y1 Hsp2 Hsp3 Hsf3 hja hjn hlt hj0 hj1 Hok Hps Hpa U1 U2
        refine wp_region_held_drew (S := fun w' => (w'.cell? ⟨pb, po + at1 * 3, none⟩ = some (.int .i64 p.frm) ∧ w'.cell? ⟨pb, po + at1 * 3 + 1, none⟩ = some (.int .i64 p.till)) ∧ wr.grownBy w' none) (by kernel_rfl) ⟨⟨q0', q1'⟩, gr_drew (gr0 _)⟩ (fun hHeld => ?_)
        refine wpAnyH_take (i := 0) (v := ?_) rfl (by kernel_rfl) (by kernel_rfl) (by kernel_rfl) (fun _ _ _ h => h) (Or.inl ⟨by rfl, ?_⟩) hHeld ?_
        rotate_left
        · intro w9 hSw
          (obtain ⟨⟨u0, u1⟩, _⟩ := hSw)
          go_simp
          all_goals (try with_reducible rfl)
        (try simp only [Act.put, gA, gC, gD, gE, gF])
        refine wpAnyH_take (i := 1) (v := ?_) rfl (by kernel_rfl) (by kernel_rfl) (by kernel_rfl) (fun _ _ _ h => h) (Or.inl ⟨by rfl, ?_⟩) hHeld ?_
        rotate_left
        · intro w9 hSw
          (obtain ⟨⟨u0, u1⟩, _⟩ := hSw)
          go_simp
          all_goals (try with_reducible rfl)
        (try simp only [Act.put, gA, gB, gC, gD, gE, gF])
        refine wpAnyH_take (i := 2) (v := ?_) rfl (by kernel_rfl) (by kernel_rfl) (by kernel_rfl) (fun _ _ _ h => h) (Or.inl ⟨by rfl, ?_⟩) hHeld ?_
        rotate_left
        · intro w9 hSw
          (obtain ⟨⟨u0, u1⟩, _⟩ := hSw)
          go_simp
          all_goals (try with_reducible rfl)
        (try simp only [Act.put, gA, gB, gC, gD, gE, gF])
        refine wpAnyH_take (i := 3) (v := ?_) rfl (by kernel_rfl) (by kernel_rfl) (by kernel_rfl) (fun _ _ _ h => h) (Or.inl ⟨by rfl, ?_⟩) hHeld ?_
        rotate_left
        · intro w9 hSw
          (obtain ⟨⟨u0, u1⟩, _⟩ := hSw)
          go_simp
          all_goals (try with_reducible rfl)
        (try simp only [Act.put, gA, gB, gC, gD, gE, gF])
        refine wpAnyH_take (i := 4) (v := ?_) rfl (by kernel_rfl) (by kernel_rfl) (by kernel_rfl) (fun _ _ _ h => h) (Or.inl ⟨by rfl, ?_⟩) hHeld ?_
        rotate_left
        · intro w9 hSw
          (obtain ⟨⟨u0, u1⟩, _⟩ := hSw)
          go_simp
          all_goals (try with_reducible rfl)
        (try simp only [Act.put, gA, gB, gC, gD, gE, gF])
        refine wpAnyH_take (i := 5) (v := ?_) rfl (by kernel_rfl) (by kernel_rfl) (by kernel_rfl) (fun _ _ _ h => h) (Or.inl ⟨by rfl, ?_⟩) hHeld ?_
        rotate_left
        · intro w9 hSw
          (obtain ⟨⟨u0, u1⟩, _⟩ := hSw)
          go_simp
          all_goals (try with_reducible rfl)
        (try simp only [Act.put, gA, gB, gC, gD, gE, gF])
        refine wpAnyH_take (i := 6) (v := ?_) rfl (by kernel_rfl) (by kernel_rfl) (by kernel_rfl) (fun _ _ _ h => h) (Or.inl ⟨by rfl, ?_⟩) hHeld ?_
        rotate_left
        · intro w9 hSw
          (obtain ⟨⟨u0, u1⟩, _⟩ := hSw)
          go_simp
          all_goals (try with_reducible rfl)
        (try simp only [Act.put, gA, gB, gC, gD, gE, gF])
        refine wpAnyH_take (i := 7) (v := ?_) rfl (by kernel_rfl) (by kernel_rfl) (by kernel_rfl) (fun _ _ _ h => h) (Or.inl ⟨by rfl, ?_⟩) hHeld ?_
        rotate_left
        · intro w9 hSw
          (obtain ⟨⟨u0, u1⟩, _⟩ := hSw)
          go_simp
          all_goals (try with_reducible rfl)
        (try simp only [Act.put, gA, gB, gC, gD, gE, gF])
        (try simp only [u1])
        refine wpAnyH_take (i := 8) (v := ?_) rfl (by kernel_rfl) (by kernel_rfl) (by kernel_rfl) (fun _ _ _ h => h) (Or.inl ⟨by rfl, ?_⟩) hHeld ?_
        rotate_left
        · intro w9 hSw
          (obtain ⟨⟨u0, u1⟩, _⟩ := hSw)
          go_simp
          all_goals (try with_reducible rfl)
        (try simp only [Act.put, gA, gB, gC, gD, gE, gF])
        refine wpAnyH_take (i := 9) (v := ?_) rfl (by kernel_rfl) (by kernel_rfl) (by kernel_rfl) (fun _ _ _ h => h) (Or.inl ⟨by rfl, ?_⟩) hHeld ?_
        rotate_left
        · intro w9 hSw
          (obtain ⟨⟨u0, u1⟩, _⟩ := hSw)
          go_simp
          all_goals (try with_reducible rfl)
        (try simp only [Act.put, gA, gB, gC, gD, gE, gF])
        refine wpAnyH_take (i := 10) (v := ?_) rfl (by kernel_rfl) (by kernel_rfl) (by kernel_rfl) (fun _ _ _ h => h) (Or.inl ⟨by rfl, ?_⟩) hHeld ?_
        rotate_left
        · intro w9 hSw
          (obtain ⟨⟨u0, u1⟩, _⟩ := hSw)
          go_simp
          all_goals (try with_reducible rfl)
        (try simp only [Act.put, gA, gB, gC, gD, gE, gF])
        refine wpAnyH_take (i := 11) (v := ?_) rfl (by kernel_rfl) (by kernel_rfl) (by kernel_rfl) (fun _ _ _ h => h) (Or.inl ⟨by rfl, ?_⟩) hHeld ?_
        rotate_left
        · intro w9 hSw
          (obtain ⟨⟨u0, u1⟩, _⟩ := hSw)
          go_simp
          all_goals (try with_reducible rfl)
        (try simp only [Act.put, gA, gB, gC, gD, gE, gF])
        refine wpAnyH_take (i := 12) (v := ?_) rfl (by kernel_rfl) (by kernel_rfl) (by kernel_rfl) (fun _ _ _ h => h) (Or.inl ⟨by rfl, ?_⟩) hHeld ?_
        rotate_left
        · intro w9 hSw
          (obtain ⟨⟨u0, u1⟩, _⟩ := hSw)
          go_simp
          all_goals (try with_reducible rfl)
        (try simp only [Act.put, gA, gB, gC, gD, gE, gF])
        refine wpAnyH_take (i := 13) (v := ?_) rfl (by kernel_rfl) (by kernel_rfl) (by kernel_rfl) (fun _ _ _ h => h) (Or.inl ⟨by rfl, ?_⟩) hHeld ?_
        rotate_left
        · intro w9 hSw
          (obtain ⟨⟨u0, u1⟩, _⟩ := hSw)
          go_simp
          all_goals (try with_reducible rfl)
        (try simp only [Act.put, gA, gB, gC, gD, gE, gF])
        refine wpAnyH_take (i := 14) (v := ?_) rfl (by kernel_rfl) (by kernel_rfl) (by kernel_rfl) (fun _ _ _ h => h) (Or.inl ⟨by rfl, ?_⟩) hHeld ?_
        rotate_left
        · intro w9 hSw
          (obtain ⟨⟨u0, u1⟩, _⟩ := hSw)
          go_simp
          all_goals (try with_reducible rfl)
        (try simp only [Act.put, gA, gB, gC, gD, gE, gF])
        refine wpAnyH_take (i := 15) (v := ?_) rfl (by kernel_rfl) (by kernel_rfl) (by kernel_rfl) (fun _ _ _ h => h) (Or.inl ⟨by rfl, ?_⟩) hHeld ?_
        rotate_left
        · intro w9 hSw
          (obtain ⟨⟨u0, u1⟩, _⟩ := hSw)
          go_simp
          all_goals (try with_reducible rfl)
        (try simp only [Act.put, gA, gB, gC, gD, gE, gF])
        refine wpAnyH_take (i := 16) (v := ?_) rfl (by kernel_rfl) (by kernel_rfl) (by kernel_rfl) (fun _ _ _ h => h) (Or.inl ⟨by rfl, ?_⟩) hHeld ?_
        rotate_left
        · intro w9 hSw
          (obtain ⟨⟨u0, u1⟩, _⟩ := hSw)
          go_simp
          all_goals (try with_reducible rfl)
        (try simp only [Act.put, gA, gB, gC, gD, gE, gF])
        refine wpAnyH_take (i := 17) (v := ?_) rfl (by kernel_rfl) (by kernel_rfl) (by kernel_rfl) (fun _ _ _ h => h) (Or.inl ⟨by rfl, ?_⟩) hHeld ?_
        rotate_left
        · intro w9 hSw
          (obtain ⟨⟨u0, u1⟩, _⟩ := hSw)
          go_simp
          all_goals (try with_reducible rfl)
        (try simp only [Act.put, gA, gB, gC, gD, gE, gF])
        refine wpAnyH_take (i := 18) (v := ?_) rfl (by kernel_rfl) (by kernel_rfl) (by kernel_rfl) (fun _ _ _ h => h) (Or.inl ⟨by rfl, ?_⟩) hHeld ?_
        rotate_left
        · intro w9 hSw
          (obtain ⟨⟨u0, u1⟩, _⟩ := hSw)
          go_simp
          all_goals (try with_reducible rfl)
        (try simp only [Act.put, gA, gB, gC, gD, gE, gF])
        (try simp only [u2])
        refine wpAnyH_take (i := 19) (v := ?_) rfl (by kernel_rfl) (by kernel_rfl) (by kernel_rfl) (fun _ _ _ h => h) (Or.inl ⟨by rfl, ?_⟩) hHeld ?_
        rotate_left
        · intro w9 hSw
          clear hSw
          go_simp
          all_goals (try with_reducible rfl)
        (try simp only [Act.put, gA, gB, gC, gD, gE, gF])
        refine wpAnyH_take (i := 20) (v := ?_) rfl (by kernel_rfl) (by kernel_rfl) (by kernel_rfl) (fun _ _ _ h => h) (Or.inl ⟨by rfl, ?_⟩) hHeld ?_
        rotate_left
        · intro w9 hSw
          clear hSw
          go_simp
          all_goals (try with_reducible rfl)
        (try simp only [Act.put, gA, gB, gC, gD, gE, gF])
        refine wpAnyH_take (i := 21) (v := ?_) rfl (by kernel_rfl) (by kernel_rfl) (by kernel_rfl) (fun _ _ _ h => h) (Or.inl ⟨by rfl, ?_⟩) hHeld ?_
        rotate_left
        · intro w9 hSw
          clear hSw
          go_simp
          all_goals (try with_reducible rfl)
        (try simp only [Act.put, gA, gB, gC, gD, gE, gF])
        (try simp only [w3'])
        refine wpAnyH_ready (rs := [22, 23]) (by kernel_rfl) (by simp) ?_
        refine AllReadyH.cons rfl (fun K' hK' => ?_) (AllReadyH.cons rfl (fun K' hK' => ?_) AllReadyH.nil)
        · go_simp
          refine (HDi.out _).mono ?_
          rintro e' wq ⟨rfl, hg⟩
          (try simp only [])
          refine hK'.out _ _ ⟨⟨hg.cell hHeld.1.1 (by simp), hg.cell hHeld.1.2 (by simp)⟩, gr_trans0 hHeld.2 hg⟩ (fun hHeldN => ?_)
          have hHeld := hHeldN
          try (have hbD := blk_keep hbD hg (by simp))
          clear hK' K' hHeldN hg
          (try simp only [Act.put, gA, gB, gC, gD, gE, gF])
          refine wpAnyH_ready (rs := [23]) (by kernel_rfl) (by simp) ?_
          refine AllReadyH.cons rfl (fun K' hK' => ?_) AllReadyH.nil
          go_simp
          have hHeldP := hHeld
          refine hK'.out _ _ ⟨⟨(gr_alloc (gr0 _) _).cell hHeld.1.1 (by simp), (gr_alloc (gr0 _) _).cell hHeld.1.2 (by simp)⟩, gr_alloc hHeld.2 _⟩ (fun hHeldC => ?_)
          have hbD := heap_alloc_new wq (.cells #[.int .i64 0, .int .i64 0] 87)
          have hHeld := hHeldC
          clear hK' K' hHeldC
          (try simp only [Act.put, gA, gB, gC, gD, gE, gF])
          have e0 := blk_cell hbD 0 _ rfl
          have e1 := blk_cell hbD 1 _ rfl
          have k0 := blk_frozen hbD 0
          have k1 := blk_frozen hbD 1
          refine wpAnyH_ready (rs := [24]) (by kernel_rfl) (by simp) ?_
          refine AllReadyH.cons rfl (fun K' hK' => ?_) AllReadyH.nil
          go_simp
          refine hK'.out _ _ ⟨⟨(gr_alloc (gr0 _) _).cell hHeldP.1.1 (by simp), (gr_alloc (gr0 _) _).cell hHeldP.1.2 (by simp)⟩, gr_alloc hHeldP.2 _⟩ (fun hHeldF => ?_)
          clear hK' K'
          (try simp only [Act.put, gA, gB, gC, gD, gE, gF])
          refine wpAnyH_done (by kernel_rfl) ?_ _
          go_wp2_with fail
          go_meet
          exact ⟨wq.heap.size, rfl, heap_alloc_new _ _, gr_le hHeldP.2, hHeldF.2⟩
        · go_simp
          have hHeldP := hHeld
          refine hK'.out _ _ ⟨⟨(gr_alloc (gr0 _) _).cell hHeld.1.1 (by simp), (gr_alloc (gr0 _) _).cell hHeld.1.2 (by simp)⟩, gr_alloc hHeld.2 _⟩ (fun hHeldC => ?_)
          have hbD := heap_alloc_new wr.drew (.cells #[.int .i64 0, .int .i64 0] 87)
          have hHeld := hHeldC
          clear hK' K' hHeldC
          (try simp only [Act.put, gA, gB, gC, gD, gE, gF])
          have hbD : (wr.drew.alloc (.cells #[.int .i64 0, .int .i64 0] 87)).heap[wr.heap.size]? = _ := hbD
          have hpbl : pb < wr.heap.size := by have := gr_le Hgr.out; omega
          refine wpAnyH_ready (rs := [22]) (by kernel_rfl) (by simp) ?_
          refine AllReadyH.cons rfl (fun K' hK' => ?_) AllReadyH.nil
          go_simp
          refine (HDi.out _).mono ?_
          rintro e' wq ⟨rfl, hg⟩
          (try simp only [])
          refine hK'.out _ _ ⟨⟨hg.cell hHeld.1.1 (by simp), hg.cell hHeld.1.2 (by simp)⟩, gr_trans0 hHeld.2 hg⟩ (fun hHeldN => ?_)
          have hHeld := hHeldN
          try (have hbD := blk_keep hbD hg (by simp))
          clear hK' K' hHeldN hg
          (try simp only [Act.put, gA, gB, gC, gD, gE, gF])
          have e0 := blk_cell hbD 0 _ rfl
          have e1 := blk_cell hbD 1 _ rfl
          have k0 := blk_frozen hbD 0
          have k1 := blk_frozen hbD 1
          refine wpAnyH_ready (rs := [24]) (by kernel_rfl) (by simp) ?_
          refine AllReadyH.cons rfl (fun K' hK' => ?_) AllReadyH.nil
          go_simp
          have hsc := gr_setCell (p := ⟨wr.heap.size, 1, none⟩) (gr_setCell (r := some wr.heap.size) (p := ⟨wr.heap.size, 0, none⟩) (gr_refl wq _) (.inl rfl) (.int .i64 dl)) (.inl rfl) (.int .i64 dh)
          refine hK'.out _ _ ⟨⟨hsc.cell hHeld.1.1 (by simp; omega), hsc.cell hHeld.1.2 (by simp; omega)⟩, gr_setCell (p := ⟨wr.heap.size, 1, none⟩) (gr_setCell (p := ⟨wr.heap.size, 0, none⟩) hHeld.2 (.inr (Nat.le_refl _)) _) (.inr (Nat.le_refl _)) _⟩ (fun hHeldF => ?_)
          clear hK' K'
          (try simp only [Act.put, gA, gB, gC, gD, gE, gF])
          refine wpAnyH_done (by kernel_rfl) ?_ _
          go_wp2_with fail
          go_meet
          exact ⟨wr.heap.size, rfl, by rw [blk_set (blk_set hbD 0 _) 1 _]; rfl, Nat.le_refl _, hHeldF.2⟩
      case rest =>
        obtain ⟨Q, rfl, hQ, hgeQ, hgQ⟩ := hcut
        generalize wc = U at *
        have HgU := hid (gr_trans0 Hgr.out hgQ)
        have l0 := hgQ.cell Hl0.out (by simp)
        have l1 := hgQ.cell Hl1.out (by simp)
        have r0 := blk_cell hQ 0 _ rfl
        have r1 := blk_cell hQ 1 _ rfl
        clear w3' HDi hQ hgQ Hsp
        generalize hA : x.amount * dl = A at *
        generalize hB : x.amount * dh = B at *
        have v1 : IntKind.i64.wrap (x.amount * dl) = A := by rw [hA]; exact IntWalk.i64_in _ (by omega)
        have v2 : IntKind.i64.wrap (x.amount * dh) = B := by rw [hB]; exact IntWalk.i64_in _ (by omega)
        have v3 : IntKind.i64.wrap (sL + A) = sL + A := IntWalk.i64_in _ (by omega)
        have v4 : IntKind.i64.wrap (sH + B) = sH + B := IntWalk.i64_in _ (by omega)
        clear hA hB
        go_upto_region 10 with fail
        go_quiet (fail)
        go_upto_region 11 with fail
        go_quiet (fail)
        clear v1 v2 v3 v4
        go_wp2_with fail
        go_roundw
        case rel => exact ⟨j + 1, by omega, by omega, by go_num, by rw [Es.out], by rw [Eh.out], gr_drewN HgU.out _⟩
        case measure => simp [intOf]; omega
    · obtain rfl : j = fn := by omega
      have hkl : k = (tailF b day).length := by rw [Htl.out]; exact hk
      obtain ⟨⟨s0, s1⟩, t0, t1⟩ := HPs.out k (by omega)
      rw [take_len _ k hkl.symm] at s0 s1 t0 t1 ⊢
      have HFl := hid (fun wx => floorDiv_any (sumD (discL y lf df) 0 (tailF b day)) 1000000 wx (by omega) (by omega) (by omega) (by omega))
      have HCe := hid (fun wx => ceilDiv_any (sumD (discH y lf df) 0 (tailF b day)) 1000000 wx (by omega) (by omega) (by omega) (by omega))
      rw [flr_def, ← HLo.out] at HFl
      rw [← HHi.out] at HCe
      have hz1 := blk_keep Hz3.out Hgr.out (by simp)
      have z0 := blk_cell hz1 0 _ rfl
      have z1 := blk_cell hz1 1 _ rfl
      have k0 := blk_frozen hz1 0
      have k1 := blk_frozen hz1 1
      have HgF := hid (gr_trans0 Hg3.out Hgr.out)
      clear hz1 hkl hk
      generalize sumD (discL y lf df) 0 (tailF b day) = sL at *
      generalize sumD (discH y lf df) 0 (tailF b day) = sH at *
      go_wp2_with fail
      refine (HFl.out _).mono ?_
      rintro e' w8 ⟨rfl, rfl⟩
      go_wp2_with fail
      refine (HCe.out _).mono ?_
      rintro e' w8 ⟨rfl, rfl⟩
      go_wp2_with fail
      exact bodyPost_ret (v := .agg #[.int .i64 (priceLo b day y), .int .i64 (priceHi b day y)]) (by simp [results, Tryz.results109, go_sem, *]) rfl ⟨rfl, gr_setCell (p := ⟨w.heap.size + 1, 1, none⟩) (gr_setCell (p := ⟨w.heap.size + 1, 0, none⟩) HgF.out (.inr (Nat.le_succ _)) _) (.inr (Nat.le_succ _)) _⟩

end Go.Proofs.YtielicmjdhmcjaaGreatDoor

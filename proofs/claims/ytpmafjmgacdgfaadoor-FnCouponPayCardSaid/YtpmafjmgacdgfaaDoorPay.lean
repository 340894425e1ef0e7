/- CouponPay of the program and of the reference. -/
import Derived.Test.YtpmafjmgacdgfaaDoorRows
import Derived.Test.YtpmafjmgacdgfaaDoorBase
import Derived.Test.YtpmafjmgacdgfaaDoorSpecFlow
import Derived.Test.YtpmafjmgacdgfaaDoorHold
import Derived.Test.YtpmafjmgacdgfaaDoorToInts
namespace Go.Proofs.YtpmafjmgacdgfaaDoor
open Go.RowKit

def payB (b : Bond) (hs : List Int) : Bool := bondB b && holdersOk hs
def payL (b : Bond) (hs : List Int) (day : Int) : List Int := hs.map fun h => h * payAmt day (flowsL b)
def payF (b : Bond) (hs : List Int) (day : Int) : List Int := if payB b hs = true then payL b hs day else []
theorem holders_facts {hs : List Int} (h : holdersOk hs = true) : 1 ≤ hs.length ∧ hs.length ≤ 8 ∧ ∀ x ∈ hs, 0 ≤ x ∧ x ≤ 9999 := by
  unfold holdersOk intsIn at h
  simp only [Bool.and_eq_true, List.all_eq_true] at h
  obtain ⟨h1, h2⟩ := h
  have h3 := (within_iff' _ _ _).1 h1
  exact ⟨by omega, by omega, fun x hx => (within_iff' _ _ _).1 (h2 x hx)⟩

set_option maxRecDepth 100000 in
set_option maxHeartbeats 2000000 in
theorem CouponPay_any (b : Bond) (day : Int) (a : Option Addr) (n cap : Nat) (hs : List Int) (w : World) (hmo : Months w) (hsl : Sl intL w a n hs) :
    Calls Tryd.prog 43 #[.agg #[.int .i64 b.start, .int .i64 b.stop, .int .i64 b.months, .int .i64 b.rate], .slice a n cap, .int .i64 day] w fun e' w' => ∃ a' n' cap', e' = .returned (.slice a' n' cap') ∧ Ow intL w' w.heap.size a' n' (payF b hs day) ∧ n' ≤ cap' ∧ w.grownBy w' none := by
  obtain ⟨i0, hi, hz0, hz1, hz2⟩ := info_parts infoInt
  have hg0 : w.grownBy (w.alloc (.cells #[.int .i64 b.start, .int .i64 b.stop, .int .i64 b.months, .int .i64 b.rate] 25)) none := gr_alloc (gr0 _) _
  have Hb0 := hid (heap_alloc_new w (.cells #[.int .i64 b.start, .int .i64 b.stop, .int .i64 b.months, .int .i64 b.rate] 25))
  have HG := hid hg0
  have HV := hid (ValidBond_any b _ (hmo.keep0 hg0))
  have Hsl := hid (hsl.keep0 hg0)
  have Hmo := hid hmo
  clear hsl hmo hg0
  cases hb : bondB b with
  | false =>
    have Hno := hid (show payF b hs day = [] by unfold payF payB; rw [hb]; rfl)
    rw [hb] at HV
    clear hb
    go_enter Tryd.func43, Tryd.ntmps43
    go_wp2_with fail
    refine HV.out.mono ?_
    rintro e' w1 ⟨rfl, hg⟩
    have Hg1 := hid (gr_trans0 HG.out hg)
    clear hg
    go_wp2_with fail
    go_ret
    exact ⟨none, 0, 0, rfl, by rw [Hno.out]; exact Ow.nil _ _ _ _, Nat.le_refl _, Hg1.out⟩
  | true =>
    have hok := ok_bond hb
    rw [hb] at HV
    cases hh : holdersOk hs with
    | false =>
      have Hno := hid (show payF b hs day = [] by unfold payF payB; rw [hb, hh]; rfl)
      have Hh := hid hh
      clear hb hh
      go_enter Tryd.func43, Tryd.ntmps43
      go_wp2_with fail
      refine HV.out.mono ?_
      rintro e' w1 ⟨rfl, hg⟩
      have Hg1 := hid (gr_trans0 HG.out hg)
      have Hs1 := hid (Hsl.out.keep0 hg)
      clear hg
      go_wp2_with fail
      refine (holdersValid_any a n cap hs _ Hs1.out).mono ?_
      rintro e' w2 ⟨rfl, rfl⟩
      rw [Hh.out]
      go_wp2_with fail
      go_ret
      exact ⟨none, 0, 0, rfl, by rw [Hno.out]; exact Ow.nil _ _ _ _, Nat.le_refl _, Hg1.out⟩
    | true =>
      obtain ⟨hl1, hl8, hbd⟩ := holders_facts hh
      have Hbd := hid hbd
      have HF := hid (fun wx (hx : Months wx) => flows_any b wx hx hok)
      have Hyes := hid (show payF b hs day = payL b hs day by unfold payF payB; rw [hb, hh]; rfl)
      have Hpl := hid (show payL b hs day = hs.map (fun h => h * payAmt day (flowsL b)) from rfl)
      have Hhit := hid (fun k f => @payAmt_hit b hok day k f)
      have Hab := hid (fun f hf => flows_bd hok f hf)
      have Hh := hid hh
      have hfl40 : (flowsL b).length ≤ 40 := by rw [flows_len]; have := hok.span.q2; unfold persF; rw [sched_len]; exact this
      have hn1 : 1 ≤ n := by have := Hsl.out.len; omega
      have hn8 : n ≤ 8 := by have := Hsl.out.len; omega
      clear hb hh hok hbd hl1 hl8
      go_enter Tryd.func43, Tryd.ntmps43
      go_wp2_with fail
      refine HV.out.mono ?_
      rintro e' w1 ⟨rfl, hg⟩
      have Hg1 := hid (gr_trans0 HG.out hg)
      have Hs1 := hid (Hsl.out.keep0 hg)
      have Hb1 := hid (blk_keep Hb0.out hg (by simp))
      clear hg
      go_wp2_with fail
      refine (holdersValid_any a n cap hs _ Hs1.out).mono ?_
      rintro e' w2 ⟨rfl, rfl⟩
      rw [Hh.out]
      go_wp2_with (at_make; refine wpList_make_full _ rfl _ _ 52 rfl w1.heap.size 3 i0 _ 1 Tryd.underlying52 hi hz0 hz1 _ _ _ _ n rfl rfl rfl rfl ?c1 ?c2 ?c3 ?_)
      case c1 => rw [hz2]; omega
      case c2 => unfold maxLen; omega
      case c3 => omega
      intro w3 hown hg3
      have how : Ow intL w3 w1.heap.size (some ⟨w1.heap.size, 0, none⟩) n (List.replicate n 0) := Ow.of_made (L := intL) (x0 := 0) (by simpa [intL] using hown) (by unfold maxLen; omega)
      have How3 := hid how
      have Hg3 := hid (gr_trans0 Hg1.out hg3)
      have Hs3 := hid (Hs1.out.keep0 hg3)
      have hb3 := blk_keep Hb1.out hg3 (by simp)
      have c0 := blk_cell hb3 0 _ rfl
      have c1 := blk_cell hb3 1 _ rfl
      have c2 := blk_cell hb3 2 _ rfl
      have c3 := blk_cell hb3 3 _ rfl
      have hO3 : w1.heap.size < w3.heap.size := by obtain ⟨b9, o9, e9, _, h9, _⟩ := how.mem (by omega); cases e9; exact h9
      clear hown hg3 how hb3
      go_wp2_with fail
      refine (HF.out _ (Hmo.out.keep0 Hg3.out)).mono ?_
      rintro e' w4 ⟨fa, fn, fc, rfl, ho, _, hg⟩
      have Hg4 := hid (gr_trans0 Hg3.out hg)
      have How4 := hid (How3.out.keep0 hg)
      have Hs4 := hid (Hs3.out.keep0 hg)
      have Hf4 := hid ho.sl
      have Hfne := hid (show 0 < fn → ∀ b' off, fa = some ⟨b', off, none⟩ → b' ≠ w1.heap.size from fun h0 b' off e => by
        obtain ⟨b2, o2, e2, hge, _⟩ := ho.mem h0
        rw [e] at e2; cases e2; omega)
      have Hane := hid (show 0 < n → ∀ b' off, a = some ⟨b', off, none⟩ → b' ≠ w1.heap.size from fun h0 b' off e => by
        obtain ⟨b2, o2, e2, hlt, _⟩ := Hs1.out.mem h0
        rw [e] at e2; cases e2; omega)
      have hfn : fn ≤ 40 := by have := ho.len; omega
      have hO4 : w1.heap.size < w4.heap.size := by have := gr_le hg; omega
      have hwO : w.heap.size ≤ w1.heap.size := gr_le Hg1.out
      clear ho hg c0 c1 c2 c3 How3 Hs3 hfl40
      generalize w1.heap.size = O at *
      generalize hFL : flowsL b = FL at *
      have HFL := hid hFL
      clear hFL
      go_wp2_with fail
      go_loopw [26] (fun i wr => ∃ k : Nat, k ≤ fn ∧ i = .int .i64 k ∧ Ow intL wr O (some ⟨O, 0, none⟩) n (hs.map fun h => h * payAmt day (FL.take k)) ∧ w4.grownBy wr (some O)) (fun i _ => fn - (intOf i).toNat)
      case atStart => exact ⟨0, by omega, rfl, by
        have e : (hs.map fun h => h * payAmt day (FL.take 0)) = List.replicate n 0 := by
          have : (hs.map fun h => h * payAmt day (FL.take 0)) = hs.map fun _ => (0 : Int) := by simp [payAmt]
          rw [this, List.map_const', Hs4.out.len]
        rw [e]; exact How4.out, gr_refl _ _⟩
      case round =>
        clear How4
        obtain ⟨k, hk, rfl, how, hgr⟩ := hrel
        have How := hid how
        have Hgr := hid hgr
        clear how hgr
        by_cases hlt : k < fn
        · obtain ⟨lb, lo, f, rfl, hf, l0, l1⟩ := flow_at (Hf4.out.keep Hgr.out (fun h0 b' off e e2 => by cases e2; exact Hfne.out h0 O off e rfl)) k hlt
          have Hf := hid hf
          have hfb := Hab.out f (List.mem_of_getElem? hf)
          obtain ⟨fb0, fb1, _, _⟩ := hfb
          have ki0 : (0 : Int) ≤ k := by omega
          have ki1 : (k : Int) < fn := by omega
          clear hf
          by_cases hday : f.day = day
          · have hdb : (f.day == day) = true := by simpa using hday
            obtain ⟨ph0, ph1⟩ := Hhit.out k f Hf.out hday
            have Ph1 := hid ph1
            rw [ph0] at How
            have HowZ := hid (show Ow intL (wr.alloc (.cells #[.int .i64 f.day, .int .i64 f.amount] 42)) O (some ⟨O, 0, none⟩) n (((hs.map fun h => h * f.amount).take 0) ++ List.replicate (n - 0) 0) by
              have e : (hs.map fun h => h * (0 : Int)) = List.replicate n 0 := by
                have : (hs.map fun h => h * (0 : Int)) = hs.map fun _ => (0 : Int) := by simp
                rw [this, List.map_const', Hs4.out.len]
              rw [e] at How
              simpa using How.out.keep0 (gr_alloc (gr0 _) _))
            have hX := heap_alloc_new wr (.cells #[.int .i64 f.day, .int .i64 f.amount] 42)
            have HX := hid hX
            have HgX := hid (gr_alloc Hgr.out (.cells #[.int .i64 f.day, .int .i64 f.amount] 42))
            have hOX : O < wr.heap.size := by have := gr_le Hgr.out; omega
            clear ph0 ph1 hday How hX
            go_wp2_with fail
            generalize (wr.alloc (.cells #[.int .i64 f.day, .int .i64 f.amount] 42)) = V at *
            generalize wr.heap.size = X at *
            go_loopw [36] (fun i wr => ∃ j : Nat, j ≤ n ∧ i = .int .i64 j ∧ Ow intL wr O (some ⟨O, 0, none⟩) n (((hs.map fun h => h * f.amount).take j) ++ List.replicate (n - j) 0) ∧ V.grownBy wr (some O)) (fun i _ => n - (intOf i).toNat)
            case atStart => exact ⟨0, by omega, rfl, HowZ.out, gr_refl _ _⟩
            case round =>
              clear HowZ
              obtain ⟨j, hj, rfl, how, hgq⟩ := hrel
              have Hgq := hid hgq
              by_cases hlj : j < n
              · obtain ⟨hb, ho2, h, rfl, hhj, m0⟩ := int_at ((Hs4.out.keep HgX.out (fun h0 b' off e e2 => by cases e2; exact Hane.out h0 O off e rfl)).keep Hgq.out (fun h0 b' off e e2 => by cases e2; exact Hane.out h0 O off e rfl)) j hlj
                have hhb := Hbd.out h (List.mem_of_getElem? hhj)
                obtain ⟨hh0, hh1⟩ := hhb
                have hp0 : 0 ≤ h * f.amount := Int.mul_nonneg hh0 fb0
                have hp1 : h * f.amount ≤ 9999 * 13000 := Int.le_trans (Int.mul_le_mul_of_nonneg_right hh1 fb0) (Int.mul_le_mul_of_nonneg_left fb1 (by omega))
                have hx := blk_keep HX.out Hgq.out (by intro q e; cases e; omega)
                have x1 := blk_cell hx 1 _ rfl
                obtain ⟨b9, o9, z, e9, hz, _, _, hfz, hcz⟩ := how.at j hlj
                simp only [Option.some.injEq, Addr.mk.injEq, and_true] at e9
                obtain ⟨rfl, rfl⟩ := e9
                have hml : (hs.map fun h => h * f.amount).length = n := by rw [List.length_map]; exact Hs4.out.len
                rw [fill_at _ n j 0 hlj hml] at hz
                obtain rfl := Option.some.inj hz
                have d0 : wr.cell? ⟨O, j, none⟩ = some (.int .i64 0) := by have := hcz 0 _ rfl; simpa [intL] using this
                have df : wr.frozen? ⟨O, j, none⟩ = false := hfz _
                have hoF := how.set j 0 0 (h * f.amount) (.int .i64 (h * f.amount)) (fill_at _ n j 0 hlj hml) (by simp [intL]) rfl j (by simp [intL])
                rw [fill_step _ n j (h * f.amount) 0 (by rw [List.getElem?_map, hhj]; rfl) hml] at hoF
                have HoF := hid hoF
                have HgF := hid (gr_setCell (p := ⟨O, j, none⟩) Hgq.out (.inl rfl) (.int .i64 (h * f.amount)))
                have ji0 : (0 : Int) ≤ j := by omega
                have ji1 : (j : Int) < n := by omega
                clear hoF hcz hfz hz how hhj hx hml hgq
                go_wp2_with fail
                go_roundw
                case rel => exact ⟨j + 1, by omega, by go_num, HoF.out, HgF.out⟩
                case measure => simp [intOf]; omega
              · obtain rfl : j = n := by omega
                have hml : (hs.map fun h => h * f.amount).length = j := by rw [List.length_map]; exact Hs4.out.len
                rw [fill_end _ _ _ hml] at how
                have How := hid how
                clear how hgq hml
                go_wp2_with fail
                go_roundw
                case rel => exact ⟨k + 1, by omega, by go_num, by rw [Ph1.out]; exact How.out, gr_transS HgX.out Hgq.out⟩
                case measure => simp [intOf]; omega
          · have hdb : (f.day == day) = false := by simpa using hday
            have Hsame := hid (show payAmt day (FL.take (k + 1)) = payAmt day (FL.take k) by rw [take_snoc _ _ _ Hf.out, payAmt_snoc, if_neg hday]; omega)
            clear hday
            go_wp2_with fail
            go_roundw
            case rel => exact ⟨k + 1, by omega, by go_num, by rw [Hsame.out]; exact How.out.keep0 (gr_alloc (gr0 _) _), gr_alloc Hgr.out _⟩
            case measure => simp [intOf]; omega
        · obtain rfl : k = fn := by omega
          rw [take_len FL k Hf4.out.len, ← Hpl.out, ← Hyes.out] at How
          go_wp2_with fail
          go_ret
          exact ⟨_, _, _, rfl, How.out.mono hwO, Nat.le_refl _, gr_own Hg4.out Hgr.out (fun q e => by cases e; exact hwO)⟩

end Go.Proofs.YtpmafjmgacdgfaaDoor

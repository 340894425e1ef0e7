/- Packed: TotWalk, FormatBond2, Small. -/
import Derived.Test.YtielicmjdhmcjaaGreatDoorRows
import Derived.Test.YtielicmjdhmcjaaGreatDoorPk24
import Derived.Test.YtielicmjdhmcjaaGreatDoorPk25
import Derived.Lib.Join
import Derived.Test.YtielicmjdhmcjaaGreatDoorPk27
/- TotalOf of both; texts of numbers: Itoa of whatever sign, known, yes; signed, amount. -/
namespace Go.Proofs.YtielicmjdhmcjaaGreatDoor
open Go.RowKit

theorem tot_take (L : List Flow) (k : Nat) (f : Flow) (h : L[k]? = some f) : totS (L.take (k + 1)) = totS (L.take k) + f.amount := by
  rw [take_snoc _ _ _ h]
  generalize L.take k = M
  induction M with
  | nil => simp [totS]
  | cons x M ih => rw [List.cons_append, totS, totS, ih]; omega
theorem tot_take_bd {L : List Flow} (hl : L.length ≤ 40) (h : ∀ f ∈ L, 0 ≤ f.amount ∧ f.amount ≤ 13000) (k : Nat) : 0 ≤ totS (L.take k) ∧ totS (L.take k) ≤ 520000 := by
  have := totS_bd (L.take k) (fun f hf => h f (List.mem_of_mem_take hf))
  rw [List.length_take] at this
  omega

set_option maxRecDepth 100000 in
set_option maxHeartbeats 1000000 in
theorem TotalOf_any (b : Bond) (w : World) (hmo : Months w) :
    Calls Tryz.prog 52 #[.agg #[.int .i64 b.start, .int .i64 b.stop, .int .i64 b.months, .int .i64 b.rate]] w fun e' w' => e' = .returned (.int .i64 (totF b)) ∧ w.grownBy w' none := by
  have hg0 : w.grownBy (w.alloc (.cells #[.int .i64 b.start, .int .i64 b.stop, .int .i64 b.months, .int .i64 b.rate] 37)) none := gr_alloc (gr0 _) _
  have Hb0 := hid (heap_alloc_new w (.cells #[.int .i64 b.start, .int .i64 b.stop, .int .i64 b.months, .int .i64 b.rate] 37))
  have HG := hid hg0
  have HV := hid (ValidBond_any b _ (hmo.keep0 hg0))
  have Hmo := hid hmo
  cases h : bondB b with
  | false =>
    have HT := hid (show totF b = -1 by unfold totF; rw [h]; rfl)
    rw [h] at HV
    clear h hg0 hmo
    go_enter Tryz.func52, Tryz.ntmps52
    go_wp2_with fail
    refine HV.out.mono ?_
    rintro e' w1 ⟨rfl, hg⟩
    have Hg := hid (gr_trans0 HG.out hg)
    clear hg
    go_wp2_with fail
    go_ret
    exact ⟨ret_int HT.out.symm, Hg.out⟩
  | true =>
    have HT := hid (show totF b = totS (flowsL b) by unfold totF; rw [h]; rfl)
    have ok := ok_bond h
    have HF := hid (fun wx (hx : Months wx) => flows_any b wx hx ok)
    have hlen : (flowsL b).length ≤ 40 := by rw [flows_len]; unfold persF; rw [sched_len]; exact ok.span.q2
    have Hfb := hid (fun (f : Flow) (hf : f ∈ flowsL b) => And.intro (flows_bd ok f hf).1 (flows_bd ok f hf).2.1)
    have Htb := hid (fun k => tot_take_bd hlen Hfb.out k)
    rw [h] at HV
    clear h hg0 hmo ok
    go_enter Tryz.func52, Tryz.ntmps52
    go_wp2_with fail
    refine HV.out.mono ?_
    rintro e' w1 ⟨rfl, hg⟩
    have Hg := hid (gr_trans0 HG.out hg)
    have hb1 := blk_keep Hb0.out hg (by simp)
    have c0 := blk_cell hb1 0 _ rfl
    have c1 := blk_cell hb1 1 _ rfl
    have c2 := blk_cell hb1 2 _ rfl
    have c3 := blk_cell hb1 3 _ rfl
    clear hb1 hg
    go_wp2_with fail
    refine (HF.out _ (Hmo.out.keep0 Hg.out)).mono ?_
    rintro e' w2 ⟨a, n, cap, rfl, ho, hc, hg⟩
    have Hg2 := hid (gr_trans0 Hg.out hg)
    have Ho := hid ho
    have hl := ho.len
    clear hg ho Hg c0 c1 c2 c3
    have hn40 : n ≤ 40 := by omega
    go_wp2_with fail
    go_loopw [3, 12] (fun s i wr => ∃ k : Nat, k ≤ n ∧ i = .int .i64 k ∧ s = .int .i64 (totS ((flowsL b).take k)) ∧ w2.grownBy wr none) (fun _ i _ => n - (intOf i).toNat)
    case atStart => exact ⟨0, by omega, rfl, rfl, gr0 _⟩
    case round =>
      obtain ⟨k, hk, rfl, rfl, hg⟩ := hrel
      have Hg := hid hg; clear hg
      by_cases hlt : k < n
      · have hd1 : decide ((k : Int) < n) = true := by simp; omega
        obtain ⟨fb, fo, f, rfl, hf, f0, f1⟩ := flow_at (Ho.out.sl.keep0 Hg.out) k hlt
        have Hf := hid hf
        have hfb := Hfb.out f (List.mem_of_getElem? hf)
        have hb := Htb.out k
        have HS := hid (tot_take (flowsL b) k f hf)
        clear hf
        have Hw := hid (gr_alloc Hg.out (Obj.cells #[.int .i64 f.day, .int .i64 f.amount] 95))
        generalize totS ((flowsL b).take k) = s at *
        obtain ⟨fd, fa⟩ := f
        simp only at f0 f1 hfb HS Hw
        have u1 : IntKind.i64.wrap (s + fa) = s + fa := IntWalk.i64_in _ (by omega)
        clear hb hfb
        go_wp2_with fail
        go_roundw
        case rel => exact ⟨k + 1, by omega, by go_num, by rw [HS.out], Hw.out⟩
        case measure => simp [intOf]; omega
      · have hd1 : decide ((k : Int) < n) = false := by simp; omega
        obtain rfl : k = n := by omega
        rw [take_len _ _ hl, ← HT.out]
        go_wp2_with fail
        go_ret
        exact ⟨rfl, gr_trans0 Hg2.out Hg.out⟩

set_option maxRecDepth 100000 in
set_option maxHeartbeats 1000000 in
theorem specTotalOf_any (b : Bond) (w : World) :
    Calls Tryz.prog 39 #[.agg #[.int .i64 b.start, .int .i64 b.stop, .int .i64 b.months, .int .i64 b.rate]] w fun e' w' => e' = .returned (.int .i64 (totF b)) ∧ w.grownBy w' none := by
  have hg0 : w.grownBy (w.alloc (.cells #[.int .i64 b.start, .int .i64 b.stop, .int .i64 b.months, .int .i64 b.rate] 37)) none := gr_alloc (gr0 _) _
  have Hb0 := hid (heap_alloc_new w (.cells #[.int .i64 b.start, .int .i64 b.stop, .int .i64 b.months, .int .i64 b.rate] 37))
  have HG := hid hg0
  have HV := hid (specvalidBond_any b (w.alloc (.cells #[.int .i64 b.start, .int .i64 b.stop, .int .i64 b.months, .int .i64 b.rate] 37)))
  cases h : bondB b with
  | false =>
    have HT := hid (show totF b = -1 by unfold totF; rw [h]; rfl)
    rw [h] at HV
    clear h hg0
    go_enter Tryz.func39, Tryz.ntmps39
    go_wp2_with fail
    refine HV.out.mono ?_
    rintro e' w1 ⟨rfl, hg⟩
    have Hg := hid (gr_trans0 HG.out hg)
    clear hg
    go_wp2_with fail
    go_ret
    exact ⟨ret_int HT.out.symm, Hg.out⟩
  | true =>
    have HT := hid (show totF b = totS (flowsL b) by unfold totF; rw [h]; rfl)
    have ok := ok_bond h
    have HF := hid (fun wx => specflows_any b wx ok)
    have hlen : (flowsL b).length ≤ 40 := by rw [flows_len]; unfold persF; rw [sched_len]; exact ok.span.q2
    have Hfb := hid (fun (f : Flow) (hf : f ∈ flowsL b) => And.intro (flows_bd ok f hf).1 (flows_bd ok f hf).2.1)
    have Htb := hid (fun k => tot_take_bd hlen Hfb.out k)
    rw [h] at HV
    clear h hg0 ok
    go_enter Tryz.func39, Tryz.ntmps39
    go_wp2_with fail
    refine HV.out.mono ?_
    rintro e' w1 ⟨rfl, hg⟩
    have Hg := hid (gr_trans0 HG.out hg)
    have hb1 := blk_keep Hb0.out hg (by simp)
    have c0 := blk_cell hb1 0 _ rfl
    have c1 := blk_cell hb1 1 _ rfl
    have c2 := blk_cell hb1 2 _ rfl
    have c3 := blk_cell hb1 3 _ rfl
    clear hb1 hg
    go_wp2_with fail
    refine (HF.out _).mono ?_
    rintro e' w2 ⟨a, n, cap, rfl, ho, hc, hg⟩
    have Hg2 := hid (gr_trans0 Hg.out hg)
    have Ho := hid ho
    have hl := ho.len
    clear hg ho Hg c0 c1 c2 c3
    have hn40 : n ≤ 40 := by omega
    go_wp2_with fail
    go_loopw [3, 5] (fun s i wr => ∃ k : Nat, k ≤ n ∧ i = .int .i64 k ∧ s = .int .i64 (totS ((flowsL b).take k)) ∧ w2.grownBy wr none) (fun _ i _ => n - (intOf i).toNat)
    case atStart => exact ⟨0, by omega, rfl, rfl, gr0 _⟩
    case round =>
      obtain ⟨k, hk, rfl, rfl, hg⟩ := hrel
      have Hg := hid hg; clear hg
      by_cases hlt : k < n
      · have hd1 : decide ((k : Int) < n) = true := by simp; omega
        obtain ⟨fb, fo, f, rfl, hf, f0, f1⟩ := flow_at (Ho.out.sl.keep0 Hg.out) k hlt
        have Hf := hid hf
        have hfb := Hfb.out f (List.mem_of_getElem? hf)
        have hb := Htb.out k
        have HS := hid (tot_take (flowsL b) k f hf)
        clear hf
        generalize totS ((flowsL b).take k) = s at *
        obtain ⟨fd, fa⟩ := f
        simp only at f0 f1 hfb HS
        have u1 : IntKind.i64.wrap (s + fa) = s + fa := IntWalk.i64_in _ (by omega)
        clear hb hfb
        go_wp2_with fail
        go_roundw
        case rel => exact ⟨k + 1, by omega, by go_num, by rw [HS.out], Hg.out⟩
        case measure => simp [intOf]; omega
      · have hd1 : decide ((k : Int) < n) = false := by simp; omega
        obtain rfl : k = n := by omega
        rw [take_len _ _ hl, ← HT.out]
        go_wp2_with fail
        go_ret
        exact ⟨rfl, gr_trans0 Hg2.out Hg.out⟩

/- Texts of numbers. -/
theorem itoa_sig (n : Int) : Lib.itoa n = sigT n := by
  unfold Lib.itoa sigT dec
  split
  · rw [show n.natAbs = (-n).toNat by omega]
  · rfl
theorem ItoaS_any (n : Int) (w : World) (h0 : -9223372036854775808 ≤ n) (h1 : n ≤ 9223372036854775807) (hm : Laid4 w) :
    Calls Tryz.prog 54 #[.int .i64 n] w fun e w' => e = .returned (.string ⟨(sigT n).toArray⟩) ∧ w.grownBy w' none := by
  refine (Tryz.strconv_Itoa n h0 h1 w hm.tab).mono ?_
  rintro e w' ⟨rfl, k, os, rfl⟩
  exact ⟨by rw [itoa_sig], gr_grow w k os⟩

set_option maxHeartbeats 400000 in
theorem known_any (n : Int) (w : World) (h0 : -1 ≤ n) (h1 : n ≤ 8000000000) (hm : Laid4 w) :
    Calls Tryz.prog 50 #[.int .i64 n] w fun e w' => e = .returned (.string ⟨(amtT n).toArray⟩) ∧ w.grownBy w' none := by
  by_cases h : n = -1
  · subst h
    go_enter Tryz.func50, Tryz.ntmps50
    go_wp2_with fail
    go_ret
    exact ⟨rfl, gr0 _⟩
  · have hb : (n == -1) = false := by simpa using h
    have HI := hid (Itoa_any n w (by omega) (by omega) hm)
    have HE := hid (show dec n = amtT n by unfold amtT; rw [if_neg (by omega)])
    clear h h0 h1
    go_enter Tryz.func50, Tryz.ntmps50
    go_wp2_with fail
    refine HI.out.mono ?_
    rintro e w1 ⟨rfl, hg⟩
    have Hg := hid hg; clear hg
    go_wp2_with fail
    go_ret
    exact ⟨ret_text HE.out, Hg.out⟩

theorem yes_any (b : Bool) (w : World) : Calls Tryz.prog 47 #[.bool b] w fun e w' => e = .returned (.string ⟨(if b = true then okT else noT).toArray⟩) ∧ w = w' := by
  cases b
  · go_enter Tryz.func47, Tryz.ntmps47
    go_wp2_with fail
    go_ret
    exact ⟨rfl, rfl⟩
  · go_enter Tryz.func47, Tryz.ntmps47
    go_wp2_with fail
    go_ret
    exact ⟨rfl, rfl⟩

set_option maxHeartbeats 400000 in
theorem amount_any (n : Int) (w : World) (h1 : n ≤ 1000000000000) :
    Calls Tryz.prog 37 #[.int .i64 n] w fun e w' => e = .returned (.string ⟨(amtT n).toArray⟩) ∧ w.grownBy w' none := by
  by_cases h : n < 0
  · have hb : decide (n < 0) = true := by simpa using h
    have HE := hid (show noT = amtT n by unfold amtT; rw [if_pos h])
    clear h
    go_enter Tryz.func37, Tryz.ntmps37
    go_wp2_with fail
    go_ret
    exact ⟨ret_text (a := noT) HE.out, gr0 _⟩
  · obtain ⟨m, rfl⟩ := Int.eq_ofNat_of_zero_le (show 0 ≤ n by omega)
    have hb : decide ((m : Int) < 0) = false := by simp
    have HI := hid (formatInt_any m w (by omega))
    have HE := hid (show Lib.decDigits m = amtT m by unfold amtT dec; rw [if_neg (by omega), Int.toNat_natCast])
    clear h h1
    go_enter Tryz.func37, Tryz.ntmps37
    go_wp2_with fail
    refine HI.out.mono ?_
    rintro e w1 ⟨rfl, hg⟩
    have Hg := hid hg; clear hg
    go_wp2_with fail
    go_ret
    exact ⟨ret_text HE.out, Hg.out⟩

set_option maxHeartbeats 400000 in
theorem signed_any (n : Int) (w : World) (h0 : -8000000000 ≤ n) (h1 : n ≤ 8000000000) :
    Calls Tryz.prog 40 #[.int .i64 n] w fun e w' => e = .returned (.string ⟨(sigT n).toArray⟩) ∧ w.grownBy w' none := by
  by_cases h : n < 0
  · have hb : decide (n < 0) = true := by simpa using h
    have u1 : IntKind.i64.wrap (-n) = -n := IntWalk.i64_in _ (by omega)
    have HI := hid (fun wx => formatInt_dec (-n) wx (by omega) (by omega))
    have HE := hid (show [45] ++ dec (-n) = sigT n by unfold sigT; rw [if_pos h]; rfl)
    have hl := dec_le (-n) (by omega)
    have hadd : ∀ w, (Op.stringOp .add ⟨#[45]⟩ ⟨(dec (-n)).toArray⟩).run Tryz.prog w = .ok (.string ⟨([45] ++ dec (-n)).toArray⟩) w := fun w => add_lists [45] _ (by simp) (by omega) w
    generalize dec (-n) = D at *
    clear h hl
    go_enter Tryz.func40, Tryz.ntmps40
    go_wp2_with fail
    refine (HI.out _).mono ?_
    rintro e w1 ⟨rfl, hg⟩
    have Hg := hid hg; clear hg
    go_wp2_with fail
    go_ret
    exact ⟨ret_text HE.out, Hg.out⟩
  · have hb : decide (n < 0) = false := by simpa using h
    have HI := hid (formatInt_dec n w (by omega) (by omega))
    have HE := hid (show dec n = sigT n by unfold sigT; rw [if_neg h])
    clear h
    go_enter Tryz.func40, Tryz.ntmps40
    go_wp2_with fail
    refine HI.out.mono ?_
    rintro e w1 ⟨rfl, hg⟩
    have Hg := hid hg; clear hg
    go_wp2_with fail
    go_ret
    exact ⟨ret_text HE.out, Hg.out⟩
end Go.Proofs.YtielicmjdhmcjaaGreatDoor

/- FormatBond of the program: the words, joined. -/
namespace Go.Proofs.YtielicmjdhmcjaaGreatDoor
open Go.RowKit

theorem join_four (a b c d : List UInt8) : Lib.join [a, b, c, d] [32] = a ++ [32] ++ b ++ [32] ++ c ++ [32] ++ d := by
  rw [Lib.join_cons]; simp [Lib.joinTail]
theorem Join_four (W : World) (a b c d : List UInt8) (ha : a.length ≤ 100) (hb : b.length ≤ 100) (hc : c.length ≤ 100) (hd : d.length ≤ 100) (N : Nat) (e : TypeId) (hN : W.heap[N]? = some (Obj.cells #[.string ⟨(a).toArray⟩, .string ⟨(b).toArray⟩, .string ⟨(c).toArray⟩, .string ⟨(d).toArray⟩] e)) :
    Calls Tryz.prog 112 #[.slice (some ⟨N, 0, none⟩) 4 4, .string ⟨#[32]⟩] W fun e w' => e = .returned (.string ⟨(a ++ [32] ++ b ++ [32] ++ c ++ [32] ++ d).toArray⟩) ∧ W.grownBy w' none := by
  have hl : (Lib.join [a, b, c, d] [32]).length ≤ 140737488355328 := by rw [join_four]; simp; omega
  have hlt : N < W.heap.size := blk_lt hN
  refine (Tryz.strings_Join N 0 4 [⟨a.toArray⟩, ⟨b.toArray⟩, ⟨c.toArray⟩, ⟨d.toArray⟩] ⟨#[32]⟩ W (fun j x hj => ?_) hlt (by simp) (by simp) (by simpa using hl)).mono ?_
  · rw [Nat.zero_add]
    refine blk_cell hN j _ ?_
    match j, hj with
    | 0, h => cases h; rfl
    | 1, h => cases h; rfl
    | 2, h => cases h; rfl
    | 3, h => cases h; rfl
    | (j + 4), h => simp at h
  · rintro e w' ⟨rfl, hB⟩
    refine ⟨?_, gr_of_below hB⟩
    rw [← join_four]
    rfl

set_option maxRecDepth 100000 in
set_option maxHeartbeats 2000000 in
theorem FormatBond_any (b : Bond) (w : World) (hm : Laid4 w) :
    Calls Tryz.prog 76 #[.agg #[.int .i64 b.start, .int .i64 b.stop, .int .i64 b.months, .int .i64 b.rate]] w fun e w' => e = .returned (.string ⟨(fmtBond b).toArray⟩) ∧ w.grownBy w' none := by
  have Hm := hid hm
  clear hm
  have Hb0 := hid (heap_alloc_new w (Obj.cells #[.int .i64 b.start, .int .i64 b.stop, .int .i64 b.months, .int .i64 b.rate] 37))
  have HG := hid (show w.grownBy (w.alloc (Obj.cells #[.int .i64 b.start, .int .i64 b.stop, .int .i64 b.months, .int .i64 b.rate] 37)) none from gr_alloc (gr0 _) _)
  have HV := hid (ValidBond_any b (w.alloc (Obj.cells #[.int .i64 b.start, .int .i64 b.stop, .int .i64 b.months, .int .i64 b.rate] 37)) (Hm.out.mo.keep0 HG.out))
  cases hb : bondB b with
  | false =>
    have HF := hid (show fmtBond b = [] by unfold fmtBond; rw [hb]; rfl)
    rw [hb] at HV
    clear hb
    go_enter Tryz.func76, Tryz.ntmps76
    go_wp2_with fail
    refine HV.out.mono ?_
    rintro e w1 ⟨rfl, hg⟩
    have Hg1 := hid (gr_trans0 HG.out hg)
    clear hg
    go_wp2_with fail
    go_ret
    exact ⟨ret_text HF.out.symm, Hg1.out⟩
  | true =>
    have hF : fmtBond b = bondT b := by unfold fmtBond; rw [hb]; rfl
    rw [hb] at HV
    obtain ⟨⟨s0, s1⟩, ⟨e0, e1⟩, ⟨r0, r1⟩, m0, m1⟩ := bond_days hb
    have lq := dec_len12 (b.rate / 100) (by omega) (by omega)
    have lr := twoT_len (b.rate % 100) (by omega) (by omega)
    have ls := dateT_len (date_valid b.start s0 s1)
    have le := dateT_len (date_valid b.stop e0 e1)
    have lm := dec_len12 b.months (by omega) (by omega)
    have q1 : IntKind.i64.wrap (b.rate.tdiv 100) = b.rate / 100 := by rw [Int.tdiv_eq_ediv_of_nonneg r0]; exact IntWalk.i64_in _ (by omega)
    have q1b : IntKind.i64.wrap (b.rate / 100) = b.rate / 100 := IntWalk.i64_in _ (by omega)
    have q2 : b.rate.tmod 100 = b.rate % 100 := Int.tmod_eq_emod_of_nonneg r0
    have hq0 : 0 ≤ b.rate / 100 ∧ b.rate / 100 ≤ 30 := by omega
    have hr0 : 0 ≤ b.rate % 100 ∧ b.rate % 100 ≤ 99 := by omega
    obtain ⟨q, hq⟩ : ∃ q, b.rate / 100 = q := ⟨_, rfl⟩
    obtain ⟨r, hr⟩ : ∃ r, b.rate % 100 = r := ⟨_, rfl⟩
    have HT := hid (show dec q ++ [46] ++ twoT r ++ [32] ++ dateT (yF b.start) (mF b.start) (dF b.start) ++ [32] ++ dateT (yF b.stop) (mF b.stop) (dF b.stop) ++ [32] ++ dec b.months = bondT b by unfold bondT rateT dayT; rw [hq, hr]; simp)
    rw [hq] at lq q1 q1b hq0
    rw [hr] at lr q2 hr0
    clear hq hr
    rw [← hF] at HT
    clear hF
    have C1 := hid (fun wx hx => Itoa_any q wx (by omega) (by omega) hx)
    have C2 := hid (fun wx hx => two_any r wx (by omega) (by omega) hx)
    have C3 := hid (fun wx hx => dateOf_any b.start wx hx s0 s1)
    have C4 := hid (fun wx hx => FormatDate_any (yF b.start) (mF b.start) (dF b.start) wx hx)
    have C5 := hid (fun wx hx => dateOf_any b.stop wx hx e0 e1)
    have C6 := hid (fun wx hx => FormatDate_any (yF b.stop) (mF b.stop) (dF b.stop) wx hx)
    have C7 := hid (fun wx hx => Itoa_any b.months wx (by omega) (by omega) hx)
    have f3 : fmtDate (yF b.start) (mF b.start) (dF b.start) = dateT (yF b.start) (mF b.start) (dF b.start) := by unfold fmtDate; rw [if_pos ((dateB_iff _ _ _).2 (date_valid b.start s0 s1))]
    have f4 : fmtDate (yF b.stop) (mF b.stop) (dF b.stop) = dateT (yF b.stop) (mF b.stop) (dF b.stop) := by unfold fmtDate; rw [if_pos ((dateB_iff _ _ _).2 (date_valid b.stop e0 e1))]
    rw [f3] at C4
    rw [f4] at C6
    clear f3 f4
    generalize dateT (yF b.start) (mF b.start) (dF b.start) = A3 at *
    generalize dateT (yF b.stop) (mF b.stop) (dF b.stop) = A4 at *
    generalize yF b.start = ys at *
    generalize mF b.start = ms at *
    generalize dF b.start = ds at *
    generalize yF b.stop = ye at *
    generalize mF b.stop = me at *
    generalize dF b.stop = de at *
    generalize dec q = A1 at *
    generalize twoT r = A2 at *
    generalize dec b.months = A5 at *
    have a1 : ∀ w, (Op.stringOp .add ⟨(A1).toArray⟩ ⟨([46]).toArray⟩).run Tryz.prog w = .ok (.string ⟨(A1 ++ [46]).toArray⟩) w := fun w => add_lists _ _ (by first | (simp; done) | (simp; omega) | omega) (by first | (simp; done) | (simp; omega) | omega) w
    have a2 : ∀ w, (Op.stringOp .add ⟨(A1 ++ [46]).toArray⟩ ⟨(A2).toArray⟩).run Tryz.prog w = .ok (.string ⟨(A1 ++ [46] ++ A2).toArray⟩) w := fun w => add_lists _ _ (by first | (simp; done) | (simp; omega) | omega) (by first | (simp; done) | (simp; omega) | omega) w
    have hw2 : (A1 ++ [46] ++ A2).length ≤ 100 := by simp; omega
    obtain ⟨t1, ht1⟩ : ∃ s, A1 ++ [46] = s := ⟨_, rfl⟩
    rw [ht1] at a1 a2 HT hw2
    clear ht1
    obtain ⟨t2, ht2⟩ : ∃ s, t1 ++ A2 = s := ⟨_, rfl⟩
    rw [ht2] at a2 HT hw2
    clear ht2
    have HJ := hid (fun W N e hN => Join_four W t2 A3 A4 A5 hw2 (by omega) (by omega) (by omega) N e hN)
    clear lq lr ls le lm hq0 hr0 s0 s1 e0 e1 m0 m1 hb hw2
    go_enter Tryz.func76, Tryz.ntmps76
    go_wp2_with fail
    refine HV.out.mono ?_
    rintro e w1 ⟨rfl, hg⟩
    have Hg1 := hid (gr_trans0 HG.out hg)
    have Hb1 := hid (blk_keep Hb0.out hg (by simp))
    clear hg
    go_wp2_with fail
    refine wp_region_held_drew (S := fun w' => w'.heap[w.heap.size]? = some (Obj.cells #[.int .i64 b.start, .int .i64 b.stop, .int .i64 b.months, .int .i64 b.rate] 37) ∧ w.grownBy w' none) (by kernel_rfl) ⟨Hb1.out, gr_drew Hg1.out⟩ (fun hHeld => ?_)
    refine wpAnyH_take (i := 0) (v := ?_) rfl (by kernel_rfl) (by kernel_rfl) (by kernel_rfl) (fun _ _ _ h => h) (Or.inl ⟨by rfl, ?_⟩) hHeld ?_
    rotate_left
    · intro w9 hSw
      (obtain ⟨sb, _⟩ := hSw; have b0 := blk_cell sb 0 _ rfl; have b1 := blk_cell sb 1 _ rfl; have b2 := blk_cell sb 2 _ rfl; have b3 := blk_cell sb 3 _ rfl; clear sb)
      go_simp
      all_goals (try with_reducible rfl)
    (try simp only [Act.put, gA, gC, gD, gE, gF])
    refine wpAnyH_take (i := 1) (v := ?_) rfl (by kernel_rfl) (by kernel_rfl) (by kernel_rfl) (fun _ _ _ h => h) (Or.inl ⟨by rfl, ?_⟩) hHeld ?_
    rotate_left
    · intro w9 hSw
      (obtain ⟨sb, _⟩ := hSw; have b0 := blk_cell sb 0 _ rfl; have b1 := blk_cell sb 1 _ rfl; have b2 := blk_cell sb 2 _ rfl; have b3 := blk_cell sb 3 _ rfl; clear sb)
      go_simp
      all_goals (try with_reducible rfl)
    (try simp only [Act.put, gA, gB, gC, gD, gE, gF])
    refine wpAnyH_take (i := 2) (v := ?_) rfl (by kernel_rfl) (by kernel_rfl) (by kernel_rfl) (fun _ _ _ h => h) (Or.inl ⟨by rfl, ?_⟩) hHeld ?_
    rotate_left
    · intro w9 hSw
      (obtain ⟨sb, _⟩ := hSw; have b0 := blk_cell sb 0 _ rfl; have b1 := blk_cell sb 1 _ rfl; have b2 := blk_cell sb 2 _ rfl; have b3 := blk_cell sb 3 _ rfl; clear sb)
      go_simp
      all_goals (try with_reducible rfl)
    (try simp only [Act.put, gA, gB, gC, gD, gE, gF])
    (try simp only [q1]); (try simp only [q1b])
    refine wpAnyH_take (i := 5) (v := ?_) rfl (by kernel_rfl) (by kernel_rfl) (by kernel_rfl) (fun _ _ _ h => h) (Or.inl ⟨by rfl, ?_⟩) hHeld ?_
    rotate_left
    · intro w9 hSw
      (obtain ⟨sb, _⟩ := hSw; have b0 := blk_cell sb 0 _ rfl; have b1 := blk_cell sb 1 _ rfl; have b2 := blk_cell sb 2 _ rfl; have b3 := blk_cell sb 3 _ rfl; clear sb)
      go_simp
      all_goals (try with_reducible rfl)
    (try simp only [Act.put, gA, gB, gC, gD, gE, gF])
    refine wpAnyH_take (i := 6) (v := ?_) rfl (by kernel_rfl) (by kernel_rfl) (by kernel_rfl) (fun _ _ _ h => h) (Or.inl ⟨by rfl, ?_⟩) hHeld ?_
    rotate_left
    · intro w9 hSw
      (obtain ⟨sb, _⟩ := hSw; have b0 := blk_cell sb 0 _ rfl; have b1 := blk_cell sb 1 _ rfl; have b2 := blk_cell sb 2 _ rfl; have b3 := blk_cell sb 3 _ rfl; clear sb)
      go_simp
      all_goals (try with_reducible rfl)
    (try simp only [Act.put, gA, gB, gC, gD, gE, gF])
    refine wpAnyH_take (i := 7) (v := ?_) rfl (by kernel_rfl) (by kernel_rfl) (by kernel_rfl) (fun _ _ _ h => h) (Or.inl ⟨by rfl, ?_⟩) hHeld ?_
    rotate_left
    · intro w9 hSw
      (obtain ⟨sb, _⟩ := hSw; have b0 := blk_cell sb 0 _ rfl; have b1 := blk_cell sb 1 _ rfl; have b2 := blk_cell sb 2 _ rfl; have b3 := blk_cell sb 3 _ rfl; clear sb)
      go_simp
      all_goals (try with_reducible rfl)
    (try simp only [Act.put, gA, gB, gC, gD, gE, gF])
    (try simp only [q2])
    refine wpAnyH_take (i := 10) (v := ?_) rfl (by kernel_rfl) (by kernel_rfl) (by kernel_rfl) (fun _ _ _ h => h) (Or.inl ⟨by rfl, ?_⟩) hHeld ?_
    rotate_left
    · intro w9 hSw
      (obtain ⟨sb, _⟩ := hSw; have b0 := blk_cell sb 0 _ rfl; have b1 := blk_cell sb 1 _ rfl; have b2 := blk_cell sb 2 _ rfl; have b3 := blk_cell sb 3 _ rfl; clear sb)
      go_simp
      all_goals (try with_reducible rfl)
    (try simp only [Act.put, gA, gB, gC, gD, gE, gF])
    refine wpAnyH_take (i := 11) (v := ?_) rfl (by kernel_rfl) (by kernel_rfl) (by kernel_rfl) (fun _ _ _ h => h) (Or.inl ⟨by rfl, ?_⟩) hHeld ?_
    rotate_left
    · intro w9 hSw
      (obtain ⟨sb, _⟩ := hSw; have b0 := blk_cell sb 0 _ rfl; have b1 := blk_cell sb 1 _ rfl; have b2 := blk_cell sb 2 _ rfl; have b3 := blk_cell sb 3 _ rfl; clear sb)
      go_simp
      all_goals (try with_reducible rfl)
    (try simp only [Act.put, gA, gB, gC, gD, gE, gF])
    refine wpAnyH_take (i := 14) (v := ?_) rfl (by kernel_rfl) (by kernel_rfl) (by kernel_rfl) (fun _ _ _ h => h) (Or.inl ⟨by rfl, ?_⟩) hHeld ?_
    rotate_left
    · intro w9 hSw
      (obtain ⟨sb, _⟩ := hSw; have b0 := blk_cell sb 0 _ rfl; have b1 := blk_cell sb 1 _ rfl; have b2 := blk_cell sb 2 _ rfl; have b3 := blk_cell sb 3 _ rfl; clear sb)
      go_simp
      all_goals (try with_reducible rfl)
    (try simp only [Act.put, gA, gB, gC, gD, gE, gF])
    refine wpAnyH_take (i := 15) (v := ?_) rfl (by kernel_rfl) (by kernel_rfl) (by kernel_rfl) (fun _ _ _ h => h) (Or.inl ⟨by rfl, ?_⟩) hHeld ?_
    rotate_left
    · intro w9 hSw
      (obtain ⟨sb, _⟩ := hSw; have b0 := blk_cell sb 0 _ rfl; have b1 := blk_cell sb 1 _ rfl; have b2 := blk_cell sb 2 _ rfl; have b3 := blk_cell sb 3 _ rfl; clear sb)
      go_simp
      all_goals (try with_reducible rfl)
    (try simp only [Act.put, gA, gB, gC, gD, gE, gF])
    refine wpAnyH_take (i := 18) (v := ?_) rfl (by kernel_rfl) (by kernel_rfl) (by kernel_rfl) (fun _ _ _ h => h) (Or.inl ⟨by rfl, ?_⟩) hHeld ?_
    rotate_left
    · intro w9 hSw
      (obtain ⟨sb, _⟩ := hSw; have b0 := blk_cell sb 0 _ rfl; have b1 := blk_cell sb 1 _ rfl; have b2 := blk_cell sb 2 _ rfl; have b3 := blk_cell sb 3 _ rfl; clear sb)
      go_simp
      all_goals (try with_reducible rfl)
    (try simp only [Act.put, gA, gB, gC, gD, gE, gF])
    refine wpAnyH_take (i := 19) (v := ?_) rfl (by kernel_rfl) (by kernel_rfl) (by kernel_rfl) (fun _ _ _ h => h) (Or.inl ⟨by rfl, ?_⟩) hHeld ?_
    rotate_left
    · intro w9 hSw
      (obtain ⟨sb, _⟩ := hSw; have b0 := blk_cell sb 0 _ rfl; have b1 := blk_cell sb 1 _ rfl; have b2 := blk_cell sb 2 _ rfl; have b3 := blk_cell sb 3 _ rfl; clear sb)
      go_simp
      all_goals (try with_reducible rfl)
    (try simp only [Act.put, gA, gB, gC, gD, gE, gF])
    clear q1 q1b q2
    refine wpAnyH_ready (rs := [3]) (by kernel_rfl) (by simp) ?_
    refine AllReadyH.cons rfl (fun K' hK' => ?_) AllReadyH.nil
    go_simp
    refine (C1.out _ (Hm.out.keep0 hHeld.2)).mono ?_
    rintro e' w2 ⟨rfl, hg⟩
    (try simp only [])
    refine hK'.out _ _ ⟨blk_keep hHeld.1 hg (by simp), gr_trans0 hHeld.2 hg⟩ (fun hHeldN => ?_)
    clear hHeld hg
    have hHeld := hHeldN
    clear hK' K' hHeldN
    (try simp only [Act.put, gA, gB, gC, gD, gE, gF])
    refine wpAnyH_take (i := 4) (v := ?_) rfl (by kernel_rfl) (by kernel_rfl) (by kernel_rfl) (fun _ _ _ h => h) (Or.inl ⟨by rfl, ?_⟩) hHeld ?_
    rotate_left
    · intro w9 hSw
      clear hSw
      go_simp
      all_goals (try with_reducible rfl)
    (try simp only [Act.put, gA, gB, gC, gD, gE, gF])
    refine wpAnyH_ready (rs := [8]) (by kernel_rfl) (by simp) ?_
    refine AllReadyH.cons rfl (fun K' hK' => ?_) AllReadyH.nil
    go_simp
    refine (C2.out _ (Hm.out.keep0 hHeld.2)).mono ?_
    rintro e' w3 ⟨rfl, hg⟩
    (try simp only [])
    refine hK'.out _ _ ⟨blk_keep hHeld.1 hg (by simp), gr_trans0 hHeld.2 hg⟩ (fun hHeldN => ?_)
    clear hHeld hg
    have hHeld := hHeldN
    clear hK' K' hHeldN
    (try simp only [Act.put, gA, gB, gC, gD, gE, gF])
    refine wpAnyH_take (i := 9) (v := ?_) rfl (by kernel_rfl) (by kernel_rfl) (by kernel_rfl) (fun _ _ _ h => h) (Or.inl ⟨by rfl, ?_⟩) hHeld ?_
    rotate_left
    · intro w9 hSw
      clear hSw
      go_simp
      all_goals (try with_reducible rfl)
    (try simp only [Act.put, gA, gB, gC, gD, gE, gF])
    refine wpAnyH_ready (rs := [12]) (by kernel_rfl) (by simp) ?_
    refine AllReadyH.cons rfl (fun K' hK' => ?_) AllReadyH.nil
    go_simp
    refine (C3.out _ (Hm.out.mo.keep0 hHeld.2)).mono ?_
    rintro e' w4 ⟨rfl, hg⟩
    (try simp only [])
    refine hK'.out _ _ ⟨blk_keep hHeld.1 hg (by simp), gr_trans0 hHeld.2 hg⟩ (fun hHeldN => ?_)
    clear hHeld hg
    have hHeld := hHeldN
    clear hK' K' hHeldN
    (try simp only [Act.put, gA, gB, gC, gD, gE, gF])
    refine wpAnyH_ready (rs := [13]) (by kernel_rfl) (by simp) ?_
    refine AllReadyH.cons rfl (fun K' hK' => ?_) AllReadyH.nil
    go_simp
    refine (C4.out _ (Hm.out.keep0 hHeld.2)).mono ?_
    rintro e' w5 ⟨rfl, hg⟩
    (try simp only [])
    refine hK'.out _ _ ⟨blk_keep hHeld.1 hg (by simp), gr_trans0 hHeld.2 hg⟩ (fun hHeldN => ?_)
    clear hHeld hg
    have hHeld := hHeldN
    clear hK' K' hHeldN
    (try simp only [Act.put, gA, gB, gC, gD, gE, gF])
    refine wpAnyH_ready (rs := [16]) (by kernel_rfl) (by simp) ?_
    refine AllReadyH.cons rfl (fun K' hK' => ?_) AllReadyH.nil
    go_simp
    refine (C5.out _ (Hm.out.mo.keep0 hHeld.2)).mono ?_
    rintro e' w6 ⟨rfl, hg⟩
    (try simp only [])
    refine hK'.out _ _ ⟨blk_keep hHeld.1 hg (by simp), gr_trans0 hHeld.2 hg⟩ (fun hHeldN => ?_)
    clear hHeld hg
    have hHeld := hHeldN
    clear hK' K' hHeldN
    (try simp only [Act.put, gA, gB, gC, gD, gE, gF])
    refine wpAnyH_ready (rs := [17]) (by kernel_rfl) (by simp) ?_
    refine AllReadyH.cons rfl (fun K' hK' => ?_) AllReadyH.nil
    go_simp
    refine (C6.out _ (Hm.out.keep0 hHeld.2)).mono ?_
    rintro e' w7 ⟨rfl, hg⟩
    (try simp only [])
    refine hK'.out _ _ ⟨blk_keep hHeld.1 hg (by simp), gr_trans0 hHeld.2 hg⟩ (fun hHeldN => ?_)
    clear hHeld hg
    have hHeld := hHeldN
    clear hK' K' hHeldN
    (try simp only [Act.put, gA, gB, gC, gD, gE, gF])
    refine wpAnyH_ready (rs := [20]) (by kernel_rfl) (by simp) ?_
    refine AllReadyH.cons rfl (fun K' hK' => ?_) AllReadyH.nil
    go_simp
    refine (C7.out _ (Hm.out.keep0 hHeld.2)).mono ?_
    rintro e' w8 ⟨rfl, hg⟩
    (try simp only [])
    refine hK'.out _ _ ⟨blk_keep hHeld.1 hg (by simp), gr_trans0 hHeld.2 hg⟩ (fun hHeldN => ?_)
    clear hHeld hg
    have hHeld := hHeldN
    clear hK' K' hHeldN
    (try simp only [Act.put, gA, gB, gC, gD, gE, gF])
    refine wpAnyH_ready (rs := [21]) (by kernel_rfl) (by simp) ?_
    refine AllReadyH.cons rfl (fun K' hK' => ?_) AllReadyH.nil
    go_simp
    have HN := hid (heap_alloc_new w8 (Obj.cells #[.string ⟨(t2).toArray⟩, .string ⟨(A3).toArray⟩, .string ⟨(A4).toArray⟩, .string ⟨(A5).toArray⟩] 9))
    refine hK'.out _ _ ⟨blk_alloc hHeld.1 _, gr_alloc hHeld.2 _⟩ (fun hHeldN => ?_)
    clear hHeld hK' K'
    (try simp only [Act.put, gA, gB, gC, gD, gE, gF])
    refine wpAnyH_take (i := 22) (v := ?_) rfl (by kernel_rfl) (by kernel_rfl) (by kernel_rfl) (fun _ _ _ h => h) (Or.inl ⟨by rfl, ?_⟩) hHeldN ?_
    rotate_left
    · intro w9 hSw
      clear hSw
      go_simp
      all_goals (try with_reducible rfl)
    (try simp only [Act.put, gA, gB, gC, gD, gE, gF])
    refine wpAnyH_done (by kernel_rfl) ?_ _
    have HgF := hid hHeldN.2
    clear hHeldN
    go_wp2_with fail
    refine (HJ.out _ _ _ HN.out).mono ?_
    rintro e w9 ⟨rfl, hg⟩
    have Hg9 := hid (gr_trans0 HgF.out hg)
    clear hg
    go_wp2_with fail
    go_ret
    exact ⟨ret_text (by have := HT.out; simpa using this), Hg9.out⟩

end Go.Proofs.YtielicmjdhmcjaaGreatDoor

/- The reference's number of any word, and small. -/
namespace Go.Proofs.YtielicmjdhmcjaaGreatDoor
open Go.RowKit

set_option maxRecDepth 100000 in
set_option maxHeartbeats 400000 in
theorem numberLong_any (l : List UInt8) (w : World) (hl : l.length ≤ 2000000) :
    Calls Tryz.prog 94 #[.string ⟨(l).toArray⟩, .int .i64 0, .int .i64 l.length] w fun e w' => (∃ z, e = .returned (.int .i64 z)) ∧ w = w' := by
  go_enter Tryz.func94, Tryz.ntmps94
  go_wp2_with fail
  go_loop [7, 8] (fun v i => ∃ (x : Nat) (z : Int), x ≤ l.length ∧ i = .int .i64 x ∧ v = .int .i64 z) (fun _ i => l.length - (intOf i).toNat)
  case atStart => exact ⟨0, 0, by omega, rfl, rfl⟩
  case round =>
    obtain ⟨x, v, hx, rfl, rfl⟩ := hrel
    by_cases hlt : x < l.length
    · have hd : decide ((x : Int) < l.length) = true := by simp; omega
      have HD := hid (fun wx => digit_any l x wx)
      generalize digV l[x]? = d at *
      by_cases h0 : d < 0
      · have hd0 : decide (d < 0) = true := by simpa using h0
        clear h0
        go_wp2_with fail
        refine (HD.out _).mono ?_
        rintro e' w1 ⟨rfl, rfl⟩
        go_wp2_with fail
        go_ret
        exact ⟨⟨_, rfl⟩, rfl⟩
      · have hd0 : decide (d < 0) = false := by simpa using h0
        clear h0
        go_wp2_with fail
        refine (HD.out _).mono ?_
        rintro e' w1 ⟨rfl, rfl⟩
        go_wp2_with fail
        refine (HD.out _).mono ?_
        rintro e' w1 ⟨rfl, rfl⟩
        go_wp2_with fail
        go_round
        case rel => exact ⟨x + 1, _, by omega, by go_num, rfl⟩
        case measure => simp [intOf]; omega
    · have hd : decide ((x : Int) < l.length) = false := by simp; omega
      obtain rfl : x = l.length := by omega
      go_wp2_with fail
      go_ret
      exact ⟨⟨_, rfl⟩, rfl⟩

def smallW (l : List UInt8) : Int := if numW l = impN then -1 else numW l
theorem smallW_imp {l : List UInt8} (h : l.length < 1 ∨ 5 < l.length ∨ (1 < l.length ∧ l[0]? = some 48)) : smallW l = -1 := by
  have hn : numW l = impN := by unfold numW; rw [if_pos h]
  unfold smallW; rw [hn]; rfl
theorem smallW_zero {l : List UInt8} (h : l.length = 0) : smallW l = -1 := smallW_imp (.inl (by omega))
theorem smallW_long {l : List UInt8} (h : 5 < l.length) : smallW l = -1 := smallW_imp (.inr (.inl h))
theorem numS_full (l : List UInt8) : numS l 0 l.length = if l.all isDig = true then valD l else -1 := by
  unfold numS
  rw [List.drop_zero, List.take_length]
  by_cases h : l.all isDig = true
  · rw [if_pos ⟨rfl, h⟩, if_pos h]
  · rw [if_neg (fun e => h e.2), if_neg h]
theorem smallW_mid {l : List UInt8} (h0 : ¬ l.length = 0) (h5 : ¬ 5 < l.length) :
    (numS l 0 l.length = -1 ∧ smallW l = -1) ∨ (0 ≤ numS l 0 l.length ∧ numS l 0 l.length ≤ 99999 ∧ ((dec (numS l 0 l.length) = l ∧ smallW l = numS l 0 l.length) ∨ (dec (numS l 0 l.length) ≠ l ∧ smallW l = -1))) := by
  rw [numS_full]
  by_cases hd : l.all isDig = true
  · right
    rw [if_pos hd]
    have hda := List.all_eq_true.1 hd
    have hb := valD_pow l.length l rfl hda
    have hp : (10 : Int) ^ l.length ≤ 10 ^ 5 := by
      have := Nat.pow_le_pow_right (n := 10) (by decide) (show l.length ≤ 5 by omega)
      exact_mod_cast this
    refine ⟨hb.1, by omega, ?_⟩
    by_cases hz : 1 < l.length ∧ l[0]? = some 48
    · right
      match l, hz with
      | c :: d :: ds, ⟨_, hc⟩ =>
        obtain rfl : c = 48 := by simpa using hc
        refine ⟨dec_zero_ne d ds (fun c hc => hda c (List.mem_cons_of_mem _ hc)), ?_⟩
        exact smallW_imp (.inr (.inr ⟨by simp, rfl⟩))
    · left
      have hn : numW l = valD l := by
        unfold numW
        rw [if_neg (by rintro (h | h | h); · omega
                       · omega
                       · exact hz h), if_pos hd]
      refine ⟨dec_val (l.length - 1) l (by omega) hda ?_, by unfold smallW; rw [hn, if_neg (by unfold impN; omega)]⟩
      by_cases h1 : l.length - 1 = 0
      · exact .inl h1
      · exact .inr (fun e => hz ⟨by omega, e⟩)
  · left
    rw [if_neg hd]
    refine ⟨rfl, ?_⟩
    have hn : numW l = impN := by
      unfold numW
      split
      · rfl
      · rfl
    unfold smallW; rw [hn]; rfl

set_option maxRecDepth 100000 in
set_option maxHeartbeats 400000 in
theorem small_any (l : List UInt8) (w : World) (hl : l.length ≤ 2000000) :
    Calls Tryz.prog 71 #[.string ⟨(l).toArray⟩] w fun e w' => e = .returned (.int .i64 (smallW l)) ∧ w.grownBy w' none := by
  have HL := hid (fun wx => numberLong_any l wx hl)
  by_cases h0 : l.length = 0
  · have HE := hid (smallW_zero h0)
    have hd : ((l.length : Int) == 0) = true := by rw [h0]; rfl
    clear h0
    go_enter Tryz.func71, Tryz.ntmps71
    go_wp2_with fail
    refine (HL.out _).mono ?_
    rintro e' w1 ⟨⟨z, rfl⟩, rfl⟩
    go_wp2_with fail
    go_ret
    exact ⟨ret_int HE.out.symm, gr0 _⟩
  have hd0 : ((l.length : Int) == 0) = false := by
    cases h : ((l.length : Int) == 0) with
    | false => rfl
    | true => rw [beq_iff_eq] at h; omega
  by_cases h5 : 5 < l.length
  · have HE := hid (smallW_long h5)
    have hd : decide ((5 : Int) < l.length) = true := by simp; omega
    clear h0 h5
    go_enter Tryz.func71, Tryz.ntmps71
    go_wp2_with fail
    refine (HL.out _).mono ?_
    rintro e' w1 ⟨⟨z, rfl⟩, rfl⟩
    go_wp2_with fail
    go_ret
    exact ⟨ret_int HE.out.symm, gr0 _⟩
  have hd5 : decide ((5 : Int) < l.length) = false := by simp; omega
  have HN : Hid (∀ wx, Calls Tryz.prog 94 #[.string ⟨(l).toArray⟩, .int .i64 0, .int .i64 l.length] wx fun e w' => e = .returned (.int .i64 (numS l 0 l.length)) ∧ wx = w') := hid (fun wx => number5_any l 0 l.length wx (by omega) (by omega) (by omega))
  have hm := smallW_mid h0 h5
  generalize numS l 0 l.length = n at *
  clear h0 h5 HL
  rcases hm with ⟨rfl, he⟩ | ⟨b0, b1, hm⟩
  · have HE := hid he
    clear he
    go_enter Tryz.func71, Tryz.ntmps71
    go_wp2_with fail
    refine (HN.out _).mono ?_
    rintro e' w1 ⟨rfl, rfl⟩
    go_wp2_with fail
    go_ret
    exact ⟨ret_int HE.out.symm, gr0 _⟩
  have hn0 : decide (n < 0) = false := by simp; omega
  have HF := hid (fun wx => formatInt_dec n wx b0 (by omega))
  generalize dec n = F at *
  rcases hm with ⟨e1, e2⟩ | ⟨e1, e2⟩
  · have HE := hid e2
    have hq : (F == l) = true := by simpa using e1
    have hq2 : (F != l) = false := by simpa using e1
    clear e1 e2
    go_enter Tryz.func71, Tryz.ntmps71
    go_wp2_with fail
    refine (HN.out _).mono ?_
    rintro e' w1 ⟨rfl, rfl⟩
    go_wp2_with fail
    refine (HF.out _).mono ?_
    rintro e' w1 ⟨rfl, hg⟩
    have HG := hid hg
    clear hg
    go_wp2_with fail
    go_ret
    exact ⟨ret_int HE.out.symm, HG.out⟩
  · have HE := hid e2
    have hq : (F == l) = false := by simpa using e1
    have hq2 : (F != l) = true := by simpa using e1
    clear e1 e2
    go_enter Tryz.func71, Tryz.ntmps71
    go_wp2_with fail
    refine (HN.out _).mono ?_
    rintro e' w1 ⟨rfl, rfl⟩
    go_wp2_with fail
    refine (HF.out _).mono ?_
    rintro e' w1 ⟨rfl, hg⟩
    have HG := hid hg
    clear hg
    go_wp2_with fail
    go_ret
    exact ⟨ret_int HE.out.symm, HG.out⟩
end Go.Proofs.YtielicmjdhmcjaaGreatDoor

/- Packed: TextWalk. -/
import Derived.Test.YtielicmjdhmcjaaGreatDoorRows
import Derived.Test.YtielicmjdhmcjaaGreatDoorPk12
import Derived.Test.YtielicmjdhmcjaaGreatDoorPk02
import Derived.Laws.Concat
import Derived.Laws.IdiomStrings
import Derived.Sort.Grow
import Derived.Lib.ItoaLen
/- Texts of numbers and dates: Itoa, two and FormatDate of the program; formatInt, two, formatDate and FormatDate of the reference. -/
namespace Go.Proofs.YtielicmjdhmcjaaGreatDoor
open Go.RowKit


theorem u8_in (z : Int) (h0 : 0 ≤ z) (h1 : z ≤ 255) : IntKind.u8.wrap z = z := by
  have e : IntKind.u8.wrap z = z % 256 := by simp [IntKind.wrap, IntKind.bits, IntKind.signed]
  rw [e]; omega
theorem ret_text {a b : List UInt8} (h : a = b) : Ending.returned (.string ⟨a.toArray⟩) = .returned (.string ⟨b.toArray⟩) := by rw [h]
theorem gr_grow (w : World) (k : Nat) (os : Array Obj) : w.grownBy (Sort.grow (w.drewN k) os) none :=
  ⟨rfl, rfl, rfl, by simp [Sort.grow, World.drewN], fun i hi _ => by simp only [Sort.grow, World.drewN]; rw [Array.getElem?_append_left hi]⟩
theorem add_lists (x y : List UInt8) (hx : x.length ≤ 1000) (hy : y.length ≤ 1000) (w : World) : (Op.stringOp .add ⟨x.toArray⟩ ⟨y.toArray⟩).run Tryz.prog w = .ok (.string ⟨(x ++ y).toArray⟩) w :=
  run_string_add_lists w x y (by omega) (by omega)
theorem itoa_dec (n : Int) (h : 0 ≤ n) : Lib.itoa n = dec n := by unfold Lib.itoa dec; rw [if_neg (by omega)]

theorem Itoa_any (n : Int) (w : World) (h0 : 0 ≤ n) (h1 : n ≤ 9223372036854775807) (hm : Laid4 w) :
    Calls Tryz.prog 54 #[.int .i64 n] w fun e w' => e = .returned (.string ⟨(dec n).toArray⟩) ∧ w.grownBy w' none := by
  refine (Tryz.strconv_Itoa n (by omega) h1 w hm.tab).mono ?_
  rintro e w' ⟨rfl, k, os, rfl⟩
  exact ⟨by rw [itoa_dec n h0], gr_grow w k os⟩

set_option maxHeartbeats 400000 in
theorem two_any (n : Int) (w : World) (h0 : 0 ≤ n) (h1 : n ≤ 99) (hm : Laid4 w) :
    Calls Tryz.prog 110 #[.int .i64 n] w fun e w' => e = .returned (.string ⟨(twoT n).toArray⟩) ∧ w.grownBy w' none := by
  have HI := hid (Itoa_any n w h0 (by omega) hm)
  have hl := dec_len12 n h0 h1
  by_cases h : n < 10
  · have HT := hid (show twoT n = 48 :: dec n by unfold twoT; rw [if_pos h])
    have hadd : ∀ w, (Op.stringOp .add ⟨#[48]⟩ ⟨(dec n).toArray⟩).run Tryz.prog w = .ok (.string ⟨([48] ++ dec n).toArray⟩) w := fun w => add_lists [48] (dec n) (by simp) (by omega) w
    have hd : decide (n < 10) = true := by simpa using h
    clear h hl
    generalize dec n = D at *
    go_enter Tryz.func110, Tryz.ntmps110
    go_wp2_with fail
    refine (HI.out).mono ?_
    rintro e w1 ⟨rfl, hg⟩
    have Hg := hid hg
    clear hg
    go_wp2_with fail
    go_ret
    exact ⟨ret_text HT.out.symm, Hg.out⟩
  · have HT := hid (show twoT n = dec n by unfold twoT; rw [if_neg h])
    have hd : decide (n < 10) = false := by simpa using h
    clear h hl
    go_enter Tryz.func110, Tryz.ntmps110
    go_wp2_with fail
    refine (HI.out).mono ?_
    rintro e w1 ⟨rfl, hg⟩
    have Hg := hid hg
    clear hg
    go_wp2_with fail
    go_ret
    exact ⟨ret_text HT.out.symm, Hg.out⟩


/- formatInt -/
theorem conv_one (w : World) (a : Addr) (x : UInt8) (z : Int) (c : Nat) (hz : (x.toNat : Int) = z) (hc : w.cell? a = some (.int .u8 z)) :
    (convert 22 9 (.slice (some a) 1 c)).run Tryz.prog w = .ok (.string ⟨([x]).toArray⟩) w := by
  refine run_convert_bytes_back w 22 9 5 a c [x] Tryz.underlying22 Tryz.underlying5 Tryz.underlying9 (fun j hj => ?_)
  have : j = 0 := by simpa using hj
  subst this
  have e : a.add 0 = a := by unfold Addr.add; rw [if_pos rfl]
  rw [e, hc, ← hz]; rfl
set_option maxRecDepth 100000 in
set_option maxHeartbeats 1000000 in
theorem formatInt_any (n : Nat) (w : World) (hn : n ≤ 1000000000000) :
    Calls Tryz.prog 63 #[.int .i64 n] w fun e w' => e = .returned (.string ⟨(Lib.decDigits n).toArray⟩) ∧ w.grownBy w' none := by
  induction n using Nat.strongRecOn generalizing w with
  | _ n ih =>
    by_cases h : n < 10
    · have hd : decide ((n : Int) < 10) = true := by simpa using (by omega : (n : Int) < 10)
      have HT := hid (Lib.decDigits_one h)
      obtain ⟨x, hx⟩ : ∃ x, UInt8.ofNat (48 + n) = x := ⟨_, rfl⟩
      have hxz : (x.toNat : Int) = 48 + n := by rw [← hx, dig_toNat n h]; omega
      rw [hx] at HT
      have hcv := conv_one (w.alloc (.cells #[.int .u8 (48 + n)] 5)) ⟨w.heap.size, 0, none⟩ x (48 + n) 1 hxz (blk_cell (heap_alloc_new w _) 0 _ rfl)
      have u1 : IntKind.i64.wrap (48 + n) = 48 + n := IntWalk.i64_in _ (by omega)
      have u2 : IntKind.u8.wrap (48 + n) = 48 + n := u8_in _ (by omega) (by omega)
      clear ih hx hxz h
      go_enter Tryz.func63, Tryz.ntmps63
      go_wp2_with fail
      go_ret
      exact ⟨ret_text HT.out.symm, gr_alloc (gr0 _) _⟩
    · have HI := hid (fun wx => ih (n / 10) (by omega) wx (by omega))
      have HT := hid (show Lib.decDigits n = Lib.decDigits (n / 10) ++ [UInt8.ofNat (48 + n % 10)] by rw [Lib.decDigits, dif_neg h])
      have hl : (Lib.decDigits (n / 10)).length ≤ 20 := by rw [Lib.decDigits_length]; exact Lib.nDigits_le20 _ (by omega)
      obtain ⟨x, hx⟩ : ∃ x, UInt8.ofNat (48 + n % 10) = x := ⟨_, rfl⟩
      obtain ⟨z, hz⟩ : ∃ z : Int, z = 48 + (n : Int) % 10 := ⟨_, rfl⟩
      have hz0 : 48 ≤ z ∧ z ≤ 57 := by omega
      have Hx := hid (show (x.toNat : Int) = z by rw [← hx, dig_toNat _ (Nat.mod_lt _ (by decide)), hz]; omega)
      rw [hx] at HT
      have hadd : ∀ w, (Op.stringOp .add ⟨(Lib.decDigits (n / 10)).toArray⟩ ⟨#[x]⟩).run Tryz.prog w = .ok (.string ⟨(Lib.decDigits (n / 10) ++ [x]).toArray⟩) w := fun w => add_lists _ [x] (by omega) (by simp) w
      have hd : decide ((n : Int) < 10) = false := by simpa using (by omega : ¬ (n : Int) < 10)
      obtain ⟨k, hk⟩ : ∃ k, n / 10 = k := ⟨_, rfl⟩
      have q1 : IntKind.i64.wrap ((n : Int).tdiv 10) = (k : Int) := by rw [Int.tdiv_eq_ediv_of_nonneg (by omega), show (n : Int) / 10 = (k : Int) by omega]; exact IntWalk.i64_in _ (by omega)
      have q1b : IntKind.i64.wrap ((n : Int) / 10) = (k : Int) := by rw [show (n : Int) / 10 = (k : Int) by omega]; exact IntWalk.i64_in _ (by omega)
      rw [hk] at HI HT hl hadd
      obtain ⟨r, hr⟩ : ∃ r, (n : Int).tmod 10 = r := ⟨_, rfl⟩
      have hr2 : r = (n : Int) % 10 := by rw [← hr, Int.tmod_eq_emod_of_nonneg (by omega)]
      have q3 : IntKind.i64.wrap (48 + r) = z := by rw [hz, hr2]; exact IntWalk.i64_in _ (by omega)
      have q4 : IntKind.u8.wrap z = z := u8_in _ (by omega) (by omega)
      clear ih hx hz hk hr2
      generalize Lib.decDigits k = D at *
      go_enter Tryz.func63, Tryz.ntmps63
      go_wp2_with fail
      refine wp_region_held_drew (S := fun w' => w.grownBy w' none) (by kernel_rfl) (gr_drew (gr0 _)) (fun hHeld => ?_)
      refine wpAnyH_take (i := 0) (v := ?_) rfl (by kernel_rfl) (by kernel_rfl) (by kernel_rfl) (fun _ _ _ h => h) (Or.inl ⟨by rfl, ?_⟩) hHeld ?_
      rotate_left
      · intro w9 hSw
        clear hSw
        go_simp
        all_goals (try with_reducible rfl)
      (try simp only [Act.put, gA, gC, gD, gE, gF])
      refine wpAnyH_take (i := 1) (v := ?_) rfl (by kernel_rfl) (by kernel_rfl) (by kernel_rfl) (fun _ _ _ h => h) (Or.inl ⟨by rfl, ?_⟩) hHeld ?_
      rotate_left
      · intro w9 hSw
        clear hSw
        go_simp
        all_goals (try with_reducible rfl)
      (try simp only [Act.put, gA, gB, gC, gD, gE, gF])
      (try simp only [q1]); (try simp only [q1b])
      refine wpAnyH_take (i := 3) (v := ?_) rfl (by kernel_rfl) (by kernel_rfl) (by kernel_rfl) (fun _ _ _ h => h) (Or.inl ⟨by rfl, ?_⟩) hHeld ?_
      rotate_left
      · intro w9 hSw
        clear hSw
        go_simp
        all_goals (try with_reducible rfl)
      (try simp only [Act.put, gA, gB, gC, gD, gE, gF])
      refine wpAnyH_take (i := 4) (v := ?_) rfl (by kernel_rfl) (by kernel_rfl) (by kernel_rfl) (fun _ _ _ h => h) (Or.inl ⟨by rfl, ?_⟩) hHeld ?_
      rotate_left
      · intro w9 hSw
        clear hSw
        go_simp
        all_goals (try with_reducible rfl)
      (try simp only [Act.put, gA, gB, gC, gD, gE, gF])
      (try simp only [hr])
      refine wpAnyH_take (i := 5) (v := ?_) rfl (by kernel_rfl) (by kernel_rfl) (by kernel_rfl) (fun _ _ _ h => h) (Or.inl ⟨by rfl, ?_⟩) hHeld ?_
      rotate_left
      · intro w9 hSw
        clear hSw
        go_simp
        all_goals (try with_reducible rfl)
      (try simp only [Act.put, gA, gB, gC, gD, gE, gF])
      (try simp only [q3])
      refine wpAnyH_take (i := 6) (v := ?_) rfl (by kernel_rfl) (by kernel_rfl) (by kernel_rfl) (fun _ _ _ h => h) (Or.inl ⟨by rfl, ?_⟩) hHeld ?_
      rotate_left
      · intro w9 hSw
        clear hSw
        go_simp
        all_goals (try with_reducible rfl)
      (try simp only [Act.put, gA, gB, gC, gD, gE, gF])
      (try simp only [q4])
      clear q1 q3 q4 q1b hr
      refine wpAnyH_ready (rs := [2, 7]) (by kernel_rfl) (by simp) ?_
      refine AllReadyH.cons rfl (fun K' hK' => ?_) (AllReadyH.cons rfl (fun K' hK' => ?_) AllReadyH.nil)
      · go_simp
        refine (HI.out _).mono ?_
        rintro e' wq ⟨rfl, hg⟩
        (try simp only [])
        have hgq := hg
        refine hK'.out _ _ (gr_trans0 hHeld hg) (fun hHeldN => ?_)
        clear hg
        clear hHeld
        have hHeld := hHeldN
        clear hK' K' hHeldN
        (try simp only [Act.put, gA, gB, gC, gD, gE, gF])
        refine wpAnyH_ready (rs := [7]) (by kernel_rfl) (by simp) ?_
        refine AllReadyH.cons rfl (fun K' hK' => ?_) AllReadyH.nil
        go_simp
        refine hK'.out _ _ (gr_alloc hHeld _) (fun hHeldN => ?_)
        clear hHeld
        have hHeld := hHeldN
        clear hK' K' hHeldN
        (try simp only [Act.put, gA, gB, gC, gD, gE, gF])
        have hbc : (wq.alloc (.cells #[.int .u8 z] 5)).cell? ⟨wq.heap.size, 0, none⟩ = some (.int .u8 z) := blk_cell (heap_alloc_new wq _) 0 _ rfl
        refine wpAnyH_ready (rs := [8]) (by kernel_rfl) (by simp) ?_
        refine AllReadyH.cons rfl (fun K' hK' => ?_) AllReadyH.nil
        have hcv := conv_one _ _ x z 1 Hx.out hbc
        go_simp
        refine hK'.out _ _ hHeld (fun hHeldN => ?_)
        clear hcv
        clear hHeld
        have hHeld := hHeldN
        clear hK' K' hHeldN
        (try simp only [Act.put, gA, gB, gC, gD, gE, gF])
        refine wpAnyH_take (i := 9) (v := ?_) rfl (by kernel_rfl) (by kernel_rfl) (by kernel_rfl) (fun _ _ _ h => h) (Or.inl ⟨by rfl, ?_⟩) hHeld ?_
        rotate_left
        · intro w9 hSw
          clear hSw
          go_simp
          all_goals (try with_reducible rfl)
        (try simp only [Act.put, gA, gB, gC, gD, gE, gF])
        refine wpAnyH_take (i := 10) (v := ?_) rfl (by kernel_rfl) (by kernel_rfl) (by kernel_rfl) (fun _ _ _ h => h) (Or.inl ⟨by rfl, ?_⟩) hHeld ?_
        rotate_left
        · intro w9 hSw
          clear hSw
          go_simp
          all_goals (try with_reducible rfl)
        (try simp only [Act.put, gA, gB, gC, gD, gE, gF])
        refine wpAnyH_done (by kernel_rfl) ?_ _
        have HgF := hid hHeld
        clear hHeld
        go_wp2_with fail
        go_ret
        exact ⟨ret_text HT.out.symm, HgF.out⟩
      · go_simp
        refine hK'.out _ _ (gr_alloc hHeld _) (fun hHeldN => ?_)
        clear hHeld
        have hHeld := hHeldN
        clear hK' K' hHeldN
        (try simp only [Act.put, gA, gB, gC, gD, gE, gF])
        have hbc : (w.drew.alloc (.cells #[.int .u8 z] 5)).cell? ⟨w.heap.size, 0, none⟩ = some (.int .u8 z) := blk_cell (heap_alloc_new w.drew _) 0 _ rfl
        refine wpAnyH_ready (rs := [2, 8]) (by kernel_rfl) (by simp) ?_
        refine AllReadyH.cons rfl (fun K' hK' => ?_) (AllReadyH.cons rfl (fun K' hK' => ?_) AllReadyH.nil)
        · go_simp
          refine (HI.out _).mono ?_
          rintro e' wq ⟨rfl, hg⟩
          (try simp only [])
          have hgq := hg
          refine hK'.out _ _ (gr_trans0 hHeld hg) (fun hHeldN => ?_)
          clear hg
          clear hHeld
          have hHeld := hHeldN
          clear hK' K' hHeldN
          (try simp only [Act.put, gA, gB, gC, gD, gE, gF])
          have hbc := hgq.cell hbc (by simp)
          refine wpAnyH_ready (rs := [8]) (by kernel_rfl) (by simp) ?_
          refine AllReadyH.cons rfl (fun K' hK' => ?_) AllReadyH.nil
          have hcv := conv_one _ _ x z 1 Hx.out hbc
          go_simp
          refine hK'.out _ _ hHeld (fun hHeldN => ?_)
          clear hcv
          clear hHeld
          have hHeld := hHeldN
          clear hK' K' hHeldN
          (try simp only [Act.put, gA, gB, gC, gD, gE, gF])
          refine wpAnyH_take (i := 9) (v := ?_) rfl (by kernel_rfl) (by kernel_rfl) (by kernel_rfl) (fun _ _ _ h => h) (Or.inl ⟨by rfl, ?_⟩) hHeld ?_
          rotate_left
          · intro w9 hSw
            clear hSw
            go_simp
            all_goals (try with_reducible rfl)
          (try simp only [Act.put, gA, gB, gC, gD, gE, gF])
          refine wpAnyH_take (i := 10) (v := ?_) rfl (by kernel_rfl) (by kernel_rfl) (by kernel_rfl) (fun _ _ _ h => h) (Or.inl ⟨by rfl, ?_⟩) hHeld ?_
          rotate_left
          · intro w9 hSw
            clear hSw
            go_simp
            all_goals (try with_reducible rfl)
          (try simp only [Act.put, gA, gB, gC, gD, gE, gF])
          refine wpAnyH_done (by kernel_rfl) ?_ _
          have HgF := hid hHeld
          clear hHeld
          go_wp2_with fail
          go_ret
          exact ⟨ret_text HT.out.symm, HgF.out⟩
        · have hbc : (w.alloc (.cells #[.int .u8 z] 5)).drew.cell? ⟨w.heap.size, 0, none⟩ = some (.int .u8 z) := hbc
          have hcv := conv_one _ _ x z 1 Hx.out hbc
          go_simp
          refine hK'.out _ _ hHeld (fun hHeldN => ?_)
          clear hcv
          clear hHeld
          have hHeld := hHeldN
          clear hK' K' hHeldN
          (try simp only [Act.put, gA, gB, gC, gD, gE, gF])
          refine wpAnyH_ready (rs := [2]) (by kernel_rfl) (by simp) ?_
          refine AllReadyH.cons rfl (fun K' hK' => ?_) AllReadyH.nil
          go_simp
          refine (HI.out _).mono ?_
          rintro e' wq ⟨rfl, hg⟩
          (try simp only [])
          have hgq := hg
          refine hK'.out _ _ (gr_trans0 hHeld hg) (fun hHeldN => ?_)
          clear hg
          clear hHeld
          have hHeld := hHeldN
          clear hK' K' hHeldN
          (try simp only [Act.put, gA, gB, gC, gD, gE, gF])
          refine wpAnyH_take (i := 9) (v := ?_) rfl (by kernel_rfl) (by kernel_rfl) (by kernel_rfl) (fun _ _ _ h => h) (Or.inl ⟨by rfl, ?_⟩) hHeld ?_
          rotate_left
          · intro w9 hSw
            clear hSw
            go_simp
            all_goals (try with_reducible rfl)
          (try simp only [Act.put, gA, gB, gC, gD, gE, gF])
          refine wpAnyH_take (i := 10) (v := ?_) rfl (by kernel_rfl) (by kernel_rfl) (by kernel_rfl) (fun _ _ _ h => h) (Or.inl ⟨by rfl, ?_⟩) hHeld ?_
          rotate_left
          · intro w9 hSw
            clear hSw
            go_simp
            all_goals (try with_reducible rfl)
          (try simp only [Act.put, gA, gB, gC, gD, gE, gF])
          refine wpAnyH_done (by kernel_rfl) ?_ _
          have HgF := hid hHeld
          clear hHeld
          go_wp2_with fail
          go_ret
          exact ⟨ret_text HT.out.symm, HgF.out⟩

theorem formatInt_dec (n : Int) (w : World) (h0 : 0 ≤ n) (h1 : n ≤ 1000000000000) :
    Calls Tryz.prog 63 #[.int .i64 n] w fun e w' => e = .returned (.string ⟨(dec n).toArray⟩) ∧ w.grownBy w' none := by
  obtain ⟨k, rfl⟩ := Int.eq_ofNat_of_zero_le h0
  exact formatInt_any k w (by omega)
set_option maxHeartbeats 400000 in
theorem spectwo_any (n : Int) (w : World) (h0 : 0 ≤ n) (h1 : n ≤ 99)  :
    Calls Tryz.prog 141 #[.int .i64 n] w fun e w' => e = .returned (.string ⟨(twoT n).toArray⟩) ∧ w.grownBy w' none := by
  have HI := hid (formatInt_dec n w h0 (by omega))
  have hl := dec_len12 n h0 h1
  by_cases h : n < 10
  · have HT := hid (show twoT n = 48 :: dec n by unfold twoT; rw [if_pos h])
    have hadd : ∀ w, (Op.stringOp .add ⟨#[48]⟩ ⟨(dec n).toArray⟩).run Tryz.prog w = .ok (.string ⟨([48] ++ dec n).toArray⟩) w := fun w => add_lists [48] (dec n) (by simp) (by omega) w
    have hd : decide (n < 10) = true := by simpa using h
    clear h hl
    generalize dec n = D at *
    go_enter Tryz.func141, Tryz.ntmps141
    go_wp2_with fail
    refine (HI.out).mono ?_
    rintro e w1 ⟨rfl, hg⟩
    have Hg := hid hg
    clear hg
    go_wp2_with fail
    go_ret
    exact ⟨ret_text HT.out.symm, Hg.out⟩
  · have HT := hid (show twoT n = dec n by unfold twoT; rw [if_neg h])
    have hd : decide (n < 10) = false := by simpa using h
    clear h hl
    go_enter Tryz.func141, Tryz.ntmps141
    go_wp2_with fail
    refine (HI.out).mono ?_
    rintro e w1 ⟨rfl, hg⟩
    have Hg := hid hg
    clear hg
    go_wp2_with fail
    go_ret
    exact ⟨ret_text HT.out.symm, Hg.out⟩


/- A valid date's text: the year, a minus sign, the month, a minus sign, the day; ($1: name, $2: function, $3: how the year is written, $4: two, $5: more premises) -/
set_option maxRecDepth 100000 in
set_option maxHeartbeats 1000000 in
theorem specformatDate_any (y m d : Int) (w : World) (hv : ValidYMD y m d) :
    Calls Tryz.prog 97 #[.agg #[.int .i64 y, .int .i64 m, .int .i64 d]] w fun e w' => e = .returned (.string ⟨(dateT y m d).toArray⟩) ∧ w.grownBy w' none := by
  have Hb0 := hid (heap_alloc_new w (Obj.cells #[.int .i64 y, .int .i64 m, .int .i64 d] 81))
  have HG := hid (show w.grownBy (w.alloc (Obj.cells #[.int .i64 y, .int .i64 m, .int .i64 d] 81)) none from gr_alloc (gr0 _) _)
  have hb := ymd_bd hv
  have C1 := hid (fun wx => formatInt_dec y wx (by omega) (by omega))
  have C2 := hid (fun wx => spectwo_any m wx (by omega) (by omega))
  have C3 := hid (fun wx => spectwo_any d wx (by omega) (by omega))
  clear hb
  obtain ⟨⟨y0, y1⟩, ⟨m0, m1⟩, d0, d1⟩ := ymd_bd hv
  have l4 := dec_len4 y (by omega) (by omega)
  have l2 := twoT_len m (by omega) (by omega)
  have l3 := twoT_len d (by omega) (by omega)
  have a1 : ∀ w, (Op.stringOp .add ⟨(dec y).toArray⟩ ⟨#[45]⟩).run Tryz.prog w = .ok (.string ⟨(dec y ++ [45]).toArray⟩) w := fun w => add_lists _ [45] (by omega) (by simp) w
  have a2 : ∀ w, (Op.stringOp .add ⟨(dec y ++ [45]).toArray⟩ ⟨(twoT m).toArray⟩).run Tryz.prog w = .ok (.string ⟨(dec y ++ [45] ++ twoT m).toArray⟩) w := fun w => add_lists _ _ (by simp; omega) (by omega) w
  have a3 : ∀ w, (Op.stringOp .add ⟨(dec y ++ [45] ++ twoT m).toArray⟩ ⟨#[45]⟩).run Tryz.prog w = .ok (.string ⟨(dec y ++ [45] ++ twoT m ++ [45]).toArray⟩) w := fun w => add_lists _ [45] (by simp; omega) (by simp) w
  have a4 : ∀ w, (Op.stringOp .add ⟨(dec y ++ [45] ++ twoT m ++ [45]).toArray⟩ ⟨(twoT d).toArray⟩).run Tryz.prog w = .ok (.string ⟨(dec y ++ [45] ++ twoT m ++ [45] ++ twoT d).toArray⟩) w := fun w => add_lists _ _ (by simp; omega) (by omega) w
  have HT := hid (show dec y ++ [45] ++ twoT m ++ [45] ++ twoT d = dateT y m d by unfold dateT; simp)
  obtain ⟨s1, hs1⟩ : ∃ s, dec y ++ [45] = s := ⟨_, rfl⟩
  rw [hs1] at a1 a2 a3 a4 HT
  obtain ⟨s2, hs2⟩ : ∃ s, s1 ++ twoT m = s := ⟨_, rfl⟩
  rw [hs2] at a2 a3 a4 HT
  obtain ⟨s3, hs3⟩ : ∃ s, s2 ++ [45] = s := ⟨_, rfl⟩
  rw [hs3] at a3 a4 HT
  obtain ⟨s4, hs4⟩ : ∃ s, s3 ++ twoT d = s := ⟨_, rfl⟩
  rw [hs4] at a4 HT
  clear hs1 hs2 hs3 hs4 l4 l2 l3
  generalize dec y = A1 at *
  generalize twoT m = A2 at *
  generalize twoT d = A3 at *
  go_enter Tryz.func97, Tryz.ntmps97
  go_wp2_with fail
  refine wp_region_held_drew (S := fun w' => w'.heap[w.heap.size]? = some (Obj.cells #[.int .i64 y, .int .i64 m, .int .i64 d] 81) ∧ w.grownBy w' none) (by kernel_rfl) ⟨Hb0.out, gr_drew HG.out⟩ (fun hHeld => ?_)
  refine wpAnyH_take (i := 0) (v := ?_) rfl (by kernel_rfl) (by kernel_rfl) (by kernel_rfl) (fun _ _ _ h => h) (Or.inl ⟨by rfl, ?_⟩) hHeld ?_
  rotate_left
  · intro w9 hSw
    (obtain ⟨sb, _⟩ := hSw; have b0 := blk_cell sb 0 _ rfl; have b1 := blk_cell sb 1 _ rfl; have b2 := blk_cell sb 2 _ rfl; clear sb)
    go_simp
    all_goals (try with_reducible rfl)
  (try simp only [Act.put, gA, gC, gD, gE, gF])
  refine wpAnyH_take (i := 1) (v := ?_) rfl (by kernel_rfl) (by kernel_rfl) (by kernel_rfl) (fun _ _ _ h => h) (Or.inl ⟨by rfl, ?_⟩) hHeld ?_
  rotate_left
  · intro w9 hSw
    (obtain ⟨sb, _⟩ := hSw; have b0 := blk_cell sb 0 _ rfl; have b1 := blk_cell sb 1 _ rfl; have b2 := blk_cell sb 2 _ rfl; clear sb)
    go_simp
    all_goals (try with_reducible rfl)
  (try simp only [Act.put, gA, gB, gC, gD, gE, gF])
  refine wpAnyH_take (i := 4) (v := ?_) rfl (by kernel_rfl) (by kernel_rfl) (by kernel_rfl) (fun _ _ _ h => h) (Or.inl ⟨by rfl, ?_⟩) hHeld ?_
  rotate_left
  · intro w9 hSw
    (obtain ⟨sb, _⟩ := hSw; have b0 := blk_cell sb 0 _ rfl; have b1 := blk_cell sb 1 _ rfl; have b2 := blk_cell sb 2 _ rfl; clear sb)
    go_simp
    all_goals (try with_reducible rfl)
  (try simp only [Act.put, gA, gB, gC, gD, gE, gF])
  refine wpAnyH_take (i := 5) (v := ?_) rfl (by kernel_rfl) (by kernel_rfl) (by kernel_rfl) (fun _ _ _ h => h) (Or.inl ⟨by rfl, ?_⟩) hHeld ?_
  rotate_left
  · intro w9 hSw
    (obtain ⟨sb, _⟩ := hSw; have b0 := blk_cell sb 0 _ rfl; have b1 := blk_cell sb 1 _ rfl; have b2 := blk_cell sb 2 _ rfl; clear sb)
    go_simp
    all_goals (try with_reducible rfl)
  (try simp only [Act.put, gA, gB, gC, gD, gE, gF])
  refine wpAnyH_take (i := 9) (v := ?_) rfl (by kernel_rfl) (by kernel_rfl) (by kernel_rfl) (fun _ _ _ h => h) (Or.inl ⟨by rfl, ?_⟩) hHeld ?_
  rotate_left
  · intro w9 hSw
    (obtain ⟨sb, _⟩ := hSw; have b0 := blk_cell sb 0 _ rfl; have b1 := blk_cell sb 1 _ rfl; have b2 := blk_cell sb 2 _ rfl; clear sb)
    go_simp
    all_goals (try with_reducible rfl)
  (try simp only [Act.put, gA, gB, gC, gD, gE, gF])
  refine wpAnyH_take (i := 10) (v := ?_) rfl (by kernel_rfl) (by kernel_rfl) (by kernel_rfl) (fun _ _ _ h => h) (Or.inl ⟨by rfl, ?_⟩) hHeld ?_
  rotate_left
  · intro w9 hSw
    (obtain ⟨sb, _⟩ := hSw; have b0 := blk_cell sb 0 _ rfl; have b1 := blk_cell sb 1 _ rfl; have b2 := blk_cell sb 2 _ rfl; clear sb)
    go_simp
    all_goals (try with_reducible rfl)
  (try simp only [Act.put, gA, gB, gC, gD, gE, gF])
  refine wpAnyH_ready (rs := [2]) (by kernel_rfl) (by simp) ?_
  refine AllReadyH.cons rfl (fun K' hK' => ?_) AllReadyH.nil
  go_simp
  refine (C1.out _).mono ?_
  rintro e' w5 ⟨rfl, hg⟩
  (try simp only [])
  refine hK'.out _ _ ⟨blk_keep hHeld.1 hg (by simp), gr_trans0 hHeld.2 hg⟩ (fun hHeldN => ?_)
  clear hHeld hg
  have hHeld := hHeldN
  clear hK' K' hHeldN
  (try simp only [Act.put, gA, gB, gC, gD, gE, gF])
  refine wpAnyH_take (i := 3) (v := ?_) rfl (by kernel_rfl) (by kernel_rfl) (by kernel_rfl) (fun _ _ _ h => h) (Or.inl ⟨by rfl, ?_⟩) hHeld ?_
  rotate_left
  · intro w9 hSw
    clear hSw
    go_simp
    all_goals (try with_reducible rfl)
  (try simp only [Act.put, gA, gB, gC, gD, gE, gF])
  refine wpAnyH_ready (rs := [6]) (by kernel_rfl) (by simp) ?_
  refine AllReadyH.cons rfl (fun K' hK' => ?_) AllReadyH.nil
  go_simp
  refine (C2.out _).mono ?_
  rintro e' w6 ⟨rfl, hg⟩
  (try simp only [])
  refine hK'.out _ _ ⟨blk_keep hHeld.1 hg (by simp), gr_trans0 hHeld.2 hg⟩ (fun hHeldN => ?_)
  clear hHeld hg
  have hHeld := hHeldN
  clear hK' K' hHeldN
  (try simp only [Act.put, gA, gB, gC, gD, gE, gF])
  refine wpAnyH_take (i := 7) (v := ?_) rfl (by kernel_rfl) (by kernel_rfl) (by kernel_rfl) (fun _ _ _ h => h) (Or.inl ⟨by rfl, ?_⟩) hHeld ?_
  rotate_left
  · intro w9 hSw
    clear hSw
    go_simp
    all_goals (try with_reducible rfl)
  (try simp only [Act.put, gA, gB, gC, gD, gE, gF])
  refine wpAnyH_take (i := 8) (v := ?_) rfl (by kernel_rfl) (by kernel_rfl) (by kernel_rfl) (fun _ _ _ h => h) (Or.inl ⟨by rfl, ?_⟩) hHeld ?_
  rotate_left
  · intro w9 hSw
    clear hSw
    go_simp
    all_goals (try with_reducible rfl)
  (try simp only [Act.put, gA, gB, gC, gD, gE, gF])
  refine wpAnyH_ready (rs := [11]) (by kernel_rfl) (by simp) ?_
  refine AllReadyH.cons rfl (fun K' hK' => ?_) AllReadyH.nil
  go_simp
  refine (C3.out _).mono ?_
  rintro e' w7 ⟨rfl, hg⟩
  (try simp only [])
  refine hK'.out _ _ ⟨blk_keep hHeld.1 hg (by simp), gr_trans0 hHeld.2 hg⟩ (fun hHeldN => ?_)
  clear hHeld hg
  have hHeld := hHeldN
  clear hK' K' hHeldN
  (try simp only [Act.put, gA, gB, gC, gD, gE, gF])
  refine wpAnyH_take (i := 12) (v := ?_) rfl (by kernel_rfl) (by kernel_rfl) (by kernel_rfl) (fun _ _ _ h => h) (Or.inl ⟨by rfl, ?_⟩) hHeld ?_
  rotate_left
  · intro w9 hSw
    clear hSw
    go_simp
    all_goals (try with_reducible rfl)
  (try simp only [Act.put, gA, gB, gC, gD, gE, gF])
  refine wpAnyH_take (i := 13) (v := ?_) rfl (by kernel_rfl) (by kernel_rfl) (by kernel_rfl) (fun _ _ _ h => h) (Or.inl ⟨by rfl, ?_⟩) hHeld ?_
  rotate_left
  · intro w9 hSw
    clear hSw
    go_simp
    all_goals (try with_reducible rfl)
  (try simp only [Act.put, gA, gB, gC, gD, gE, gF])
  refine wpAnyH_done (by kernel_rfl) ?_ _
  have HgF := hid hHeld.2
  clear hHeld
  go_wp2_with fail
  go_ret
  exact ⟨ret_text HT.out, HgF.out⟩

set_option maxRecDepth 100000 in
set_option maxHeartbeats 1000000 in
theorem FormatDate_any (y m d : Int) (w : World) (hl : Laid4 w) :
    Calls Tryz.prog 77 #[.agg #[.int .i64 y, .int .i64 m, .int .i64 d]] w fun e w' => e = .returned (.string ⟨(fmtDate y m d).toArray⟩) ∧ w.grownBy w' none := by
  have Hb0 := hid (heap_alloc_new w (Obj.cells #[.int .i64 y, .int .i64 m, .int .i64 d] 81))
  have HG := hid (show w.grownBy (w.alloc (Obj.cells #[.int .i64 y, .int .i64 m, .int .i64 d] 81)) none from gr_alloc (gr0 _) _)
  have c0 := blk_cell Hb0.out 0 _ rfl
  have c1 := blk_cell Hb0.out 1 _ rfl
  have c2 := blk_cell Hb0.out 2 _ rfl
  have HV := hid (ValidDate_any y m d _ (hl.mo.keep0 HG.out))
  have Hl := hid hl
  clear hl
  cases h : dateB y m d with
  | false =>
    have HF := hid (show fmtDate y m d = [] by unfold fmtDate; rw [h]; rfl)
    rw [h] at HV
    clear h
    go_enter Tryz.func77, Tryz.ntmps77
    go_wp2_with fail
    refine HV.out.mono ?_
    rintro e w1 ⟨rfl, hg⟩
    have Hg1 := hid (gr_trans0 HG.out hg)
    clear hg
    go_wp2_with fail
    go_ret
    exact ⟨ret_text HF.out.symm, Hg1.out⟩
  | true =>
    have hv := (dateB_iff _ _ _).1 h
    have HF := hid (show fmtDate y m d = dateT y m d by unfold fmtDate; rw [h]; rfl)
    rw [h] at HV
    have hb := ymd_bd hv
    have C1 := hid (fun wx hx => Itoa_any y wx (by omega) (by omega) hx)
    have C2 := hid (fun wx hx => two_any m wx (by omega) (by omega) hx)
    have C3 := hid (fun wx hx => two_any d wx (by omega) (by omega) hx)
    clear h hb
    rw [HF.out]
    obtain ⟨⟨y0, y1⟩, ⟨m0, m1⟩, d0, d1⟩ := ymd_bd hv
    have l4 := dec_len4 y (by omega) (by omega)
    have l2 := twoT_len m (by omega) (by omega)
    have l3 := twoT_len d (by omega) (by omega)
    have a1 : ∀ w, (Op.stringOp .add ⟨(dec y).toArray⟩ ⟨#[45]⟩).run Tryz.prog w = .ok (.string ⟨(dec y ++ [45]).toArray⟩) w := fun w => add_lists _ [45] (by omega) (by simp) w
    have a2 : ∀ w, (Op.stringOp .add ⟨(dec y ++ [45]).toArray⟩ ⟨(twoT m).toArray⟩).run Tryz.prog w = .ok (.string ⟨(dec y ++ [45] ++ twoT m).toArray⟩) w := fun w => add_lists _ _ (by simp; omega) (by omega) w
    have a3 : ∀ w, (Op.stringOp .add ⟨(dec y ++ [45] ++ twoT m).toArray⟩ ⟨#[45]⟩).run Tryz.prog w = .ok (.string ⟨(dec y ++ [45] ++ twoT m ++ [45]).toArray⟩) w := fun w => add_lists _ [45] (by simp; omega) (by simp) w
    have a4 : ∀ w, (Op.stringOp .add ⟨(dec y ++ [45] ++ twoT m ++ [45]).toArray⟩ ⟨(twoT d).toArray⟩).run Tryz.prog w = .ok (.string ⟨(dec y ++ [45] ++ twoT m ++ [45] ++ twoT d).toArray⟩) w := fun w => add_lists _ _ (by simp; omega) (by omega) w
    have HT := hid (show dec y ++ [45] ++ twoT m ++ [45] ++ twoT d = dateT y m d by unfold dateT; simp)
    obtain ⟨s1, hs1⟩ : ∃ s, dec y ++ [45] = s := ⟨_, rfl⟩
    rw [hs1] at a1 a2 a3 a4 HT
    obtain ⟨s2, hs2⟩ : ∃ s, s1 ++ twoT m = s := ⟨_, rfl⟩
    rw [hs2] at a2 a3 a4 HT
    obtain ⟨s3, hs3⟩ : ∃ s, s2 ++ [45] = s := ⟨_, rfl⟩
    rw [hs3] at a3 a4 HT
    obtain ⟨s4, hs4⟩ : ∃ s, s3 ++ twoT d = s := ⟨_, rfl⟩
    rw [hs4] at a4 HT
    clear hs1 hs2 hs3 hs4 l4 l2 l3
    generalize dec y = A1 at *
    generalize twoT m = A2 at *
    generalize twoT d = A3 at *
    clear HF
    go_enter Tryz.func77, Tryz.ntmps77
    go_wp2_with fail
    refine HV.out.mono ?_
    rintro e w1 ⟨rfl, hg⟩
    have Hg1 := hid (gr_trans0 HG.out hg)
    have Hb1 := hid (blk_keep Hb0.out hg (by simp))
    clear hg c0 c1 c2
    go_wp2_with fail
    refine wp_region_held_drew (S := fun w' => w'.heap[w.heap.size]? = some (Obj.cells #[.int .i64 y, .int .i64 m, .int .i64 d] 81) ∧ w.grownBy w' none) (by kernel_rfl) ⟨Hb1.out, gr_drew Hg1.out⟩ (fun hHeld => ?_)
    refine wpAnyH_take (i := 0) (v := ?_) rfl (by kernel_rfl) (by kernel_rfl) (by kernel_rfl) (fun _ _ _ h => h) (Or.inl ⟨by rfl, ?_⟩) hHeld ?_
    rotate_left
    · intro w9 hSw
      (obtain ⟨sb, _⟩ := hSw; have b0 := blk_cell sb 0 _ rfl; have b1 := blk_cell sb 1 _ rfl; have b2 := blk_cell sb 2 _ rfl; clear sb)
      go_simp
      all_goals (try with_reducible rfl)
    (try simp only [Act.put, gA, gC, gD, gE, gF])
    refine wpAnyH_take (i := 1) (v := ?_) rfl (by kernel_rfl) (by kernel_rfl) (by kernel_rfl) (fun _ _ _ h => h) (Or.inl ⟨by rfl, ?_⟩) hHeld ?_
    rotate_left
    · intro w9 hSw
      (obtain ⟨sb, _⟩ := hSw; have b0 := blk_cell sb 0 _ rfl; have b1 := blk_cell sb 1 _ rfl; have b2 := blk_cell sb 2 _ rfl; clear sb)
      go_simp
      all_goals (try with_reducible rfl)
    (try simp only [Act.put, gA, gB, gC, gD, gE, gF])
    refine wpAnyH_take (i := 4) (v := ?_) rfl (by kernel_rfl) (by kernel_rfl) (by kernel_rfl) (fun _ _ _ h => h) (Or.inl ⟨by rfl, ?_⟩) hHeld ?_
    rotate_left
    · intro w9 hSw
      (obtain ⟨sb, _⟩ := hSw; have b0 := blk_cell sb 0 _ rfl; have b1 := blk_cell sb 1 _ rfl; have b2 := blk_cell sb 2 _ rfl; clear sb)
      go_simp
      all_goals (try with_reducible rfl)
    (try simp only [Act.put, gA, gB, gC, gD, gE, gF])
    refine wpAnyH_take (i := 5) (v := ?_) rfl (by kernel_rfl) (by kernel_rfl) (by kernel_rfl) (fun _ _ _ h => h) (Or.inl ⟨by rfl, ?_⟩) hHeld ?_
    rotate_left
    · intro w9 hSw
      (obtain ⟨sb, _⟩ := hSw; have b0 := blk_cell sb 0 _ rfl; have b1 := blk_cell sb 1 _ rfl; have b2 := blk_cell sb 2 _ rfl; clear sb)
      go_simp
      all_goals (try with_reducible rfl)
    (try simp only [Act.put, gA, gB, gC, gD, gE, gF])
    refine wpAnyH_take (i := 9) (v := ?_) rfl (by kernel_rfl) (by kernel_rfl) (by kernel_rfl) (fun _ _ _ h => h) (Or.inl ⟨by rfl, ?_⟩) hHeld ?_
    rotate_left
    · intro w9 hSw
      (obtain ⟨sb, _⟩ := hSw; have b0 := blk_cell sb 0 _ rfl; have b1 := blk_cell sb 1 _ rfl; have b2 := blk_cell sb 2 _ rfl; clear sb)
      go_simp
      all_goals (try with_reducible rfl)
    (try simp only [Act.put, gA, gB, gC, gD, gE, gF])
    refine wpAnyH_take (i := 10) (v := ?_) rfl (by kernel_rfl) (by kernel_rfl) (by kernel_rfl) (fun _ _ _ h => h) (Or.inl ⟨by rfl, ?_⟩) hHeld ?_
    rotate_left
    · intro w9 hSw
      (obtain ⟨sb, _⟩ := hSw; have b0 := blk_cell sb 0 _ rfl; have b1 := blk_cell sb 1 _ rfl; have b2 := blk_cell sb 2 _ rfl; clear sb)
      go_simp
      all_goals (try with_reducible rfl)
    (try simp only [Act.put, gA, gB, gC, gD, gE, gF])
    refine wpAnyH_ready (rs := [2]) (by kernel_rfl) (by simp) ?_
    refine AllReadyH.cons rfl (fun K' hK' => ?_) AllReadyH.nil
    go_simp
    refine (C1.out _ (Hl.out.keep0 hHeld.2)).mono ?_
    rintro e' w5 ⟨rfl, hg⟩
    (try simp only [])
    refine hK'.out _ _ ⟨blk_keep hHeld.1 hg (by simp), gr_trans0 hHeld.2 hg⟩ (fun hHeldN => ?_)
    clear hHeld hg
    have hHeld := hHeldN
    clear hK' K' hHeldN
    (try simp only [Act.put, gA, gB, gC, gD, gE, gF])
    refine wpAnyH_take (i := 3) (v := ?_) rfl (by kernel_rfl) (by kernel_rfl) (by kernel_rfl) (fun _ _ _ h => h) (Or.inl ⟨by rfl, ?_⟩) hHeld ?_
    rotate_left
    · intro w9 hSw
      clear hSw
      go_simp
      all_goals (try with_reducible rfl)
    (try simp only [Act.put, gA, gB, gC, gD, gE, gF])
    refine wpAnyH_ready (rs := [6]) (by kernel_rfl) (by simp) ?_
    refine AllReadyH.cons rfl (fun K' hK' => ?_) AllReadyH.nil
    go_simp
    refine (C2.out _ (Hl.out.keep0 hHeld.2)).mono ?_
    rintro e' w6 ⟨rfl, hg⟩
    (try simp only [])
    refine hK'.out _ _ ⟨blk_keep hHeld.1 hg (by simp), gr_trans0 hHeld.2 hg⟩ (fun hHeldN => ?_)
    clear hHeld hg
    have hHeld := hHeldN
    clear hK' K' hHeldN
    (try simp only [Act.put, gA, gB, gC, gD, gE, gF])
    refine wpAnyH_take (i := 7) (v := ?_) rfl (by kernel_rfl) (by kernel_rfl) (by kernel_rfl) (fun _ _ _ h => h) (Or.inl ⟨by rfl, ?_⟩) hHeld ?_
    rotate_left
    · intro w9 hSw
      clear hSw
      go_simp
      all_goals (try with_reducible rfl)
    (try simp only [Act.put, gA, gB, gC, gD, gE, gF])
    refine wpAnyH_take (i := 8) (v := ?_) rfl (by kernel_rfl) (by kernel_rfl) (by kernel_rfl) (fun _ _ _ h => h) (Or.inl ⟨by rfl, ?_⟩) hHeld ?_
    rotate_left
    · intro w9 hSw
      clear hSw
      go_simp
      all_goals (try with_reducible rfl)
    (try simp only [Act.put, gA, gB, gC, gD, gE, gF])
    refine wpAnyH_ready (rs := [11]) (by kernel_rfl) (by simp) ?_
    refine AllReadyH.cons rfl (fun K' hK' => ?_) AllReadyH.nil
    go_simp
    refine (C3.out _ (Hl.out.keep0 hHeld.2)).mono ?_
    rintro e' w7 ⟨rfl, hg⟩
    (try simp only [])
    refine hK'.out _ _ ⟨blk_keep hHeld.1 hg (by simp), gr_trans0 hHeld.2 hg⟩ (fun hHeldN => ?_)
    clear hHeld hg
    have hHeld := hHeldN
    clear hK' K' hHeldN
    (try simp only [Act.put, gA, gB, gC, gD, gE, gF])
    refine wpAnyH_take (i := 12) (v := ?_) rfl (by kernel_rfl) (by kernel_rfl) (by kernel_rfl) (fun _ _ _ h => h) (Or.inl ⟨by rfl, ?_⟩) hHeld ?_
    rotate_left
    · intro w9 hSw
      clear hSw
      go_simp
      all_goals (try with_reducible rfl)
    (try simp only [Act.put, gA, gB, gC, gD, gE, gF])
    refine wpAnyH_take (i := 13) (v := ?_) rfl (by kernel_rfl) (by kernel_rfl) (by kernel_rfl) (fun _ _ _ h => h) (Or.inl ⟨by rfl, ?_⟩) hHeld ?_
    rotate_left
    · intro w9 hSw
      clear hSw
      go_simp
      all_goals (try with_reducible rfl)
    (try simp only [Act.put, gA, gB, gC, gD, gE, gF])
    refine wpAnyH_done (by kernel_rfl) ?_ _
    have HgF := hid hHeld.2
    clear hHeld
    go_wp2_with fail
    go_ret
    exact ⟨ret_text HT.out, HgF.out⟩


end Go.Proofs.YtielicmjdhmcjaaGreatDoor

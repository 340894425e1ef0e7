/- FormatBond of the program: the words, joined. -/
import Derived.Test.YtpomlbloeejbjaaDoorRows
import Derived.Test.YtpomlbloeejbjaaDoorBase
import Derived.Test.YtpomlbloeejbjaaDoorTextWalk
import Derived.Test.YtpomlbloeejbjaaDoorBondWalk
import Derived.Test.YtpomlbloeejbjaaDoorReadMore
import Derived.Test.YtpomlbloeejbjaaDoorShelf
import Derived.Lib.Join
namespace Go.Proofs.YtpomlbloeejbjaaDoor
open Go.RowKit

theorem join_four (a b c d : List UInt8) : Lib.join [a, b, c, d] [32] = a ++ [32] ++ b ++ [32] ++ c ++ [32] ++ d := by
  rw [Lib.join_cons]; simp [Lib.joinTail]
/-- The four words in a block: joined. -/
theorem Join_four (W : World) (a b c d : List UInt8) (ha : a.length ≤ 100) (hb : b.length ≤ 100) (hc : c.length ≤ 100) (hd : d.length ≤ 100) (N : Nat) (e : TypeId) (hN : W.heap[N]? = some (Obj.cells #[.string ⟨(a).toArray⟩, .string ⟨(b).toArray⟩, .string ⟨(c).toArray⟩, .string ⟨(d).toArray⟩] e)) :
    Calls Tryd.prog 45 #[.slice (some ⟨N, 0, none⟩) 4 4, .string ⟨#[32]⟩] W fun e w' => e = .returned (.string ⟨(a ++ [32] ++ b ++ [32] ++ c ++ [32] ++ d).toArray⟩) ∧ W.grownBy w' none := by
  have hl : (Lib.join [a, b, c, d] [32]).length ≤ 140737488355328 := by rw [join_four]; simp; omega
  have hlt : N < W.heap.size := blk_lt hN
  refine (Tryd.strings_Join N 0 4 [⟨a.toArray⟩, ⟨b.toArray⟩, ⟨c.toArray⟩, ⟨d.toArray⟩] ⟨#[32]⟩ W (fun j x hj => ?_) hlt (by simp) (by simp) (by simpa using hl)).mono ?_
  · rw [Nat.zero_add]
    refine blk_cell hN j _ ?_
    match j, hj with
    | 0, h => cases h; rfl
    | 1, h => cases h; rfl
    | 2, h => cases h; rfl
    | 3, h => cases h; rfl
    | (j + 4), h => simp at h
  · rintro e w' ⟨rfl, hB⟩
    refine ⟨?_, gr_of_below hB⟩
    rw [← join_four]
    rfl

set_option maxRecDepth 100000 in
set_option maxHeartbeats 2000000 in
theorem FormatBond_any (b : Bond) (w : World) (hm : Laid4 w) :
    Calls Tryd.prog 21 #[.agg #[.int .i64 b.start, .int .i64 b.stop, .int .i64 b.months, .int .i64 b.rate]] w fun e w' => e = .returned (.string ⟨(fmtBond b).toArray⟩) ∧ w.grownBy w' none := by
  have Hm := hid hm
  clear hm
  have Hb0 := hid (heap_alloc_new w (Obj.cells #[.int .i64 b.start, .int .i64 b.stop, .int .i64 b.months, .int .i64 b.rate] 37))
  have HG := hid (show w.grownBy (w.alloc (Obj.cells #[.int .i64 b.start, .int .i64 b.stop, .int .i64 b.months, .int .i64 b.rate] 37)) none from gr_alloc (gr0 _) _)
  have HV := hid (ValidBond_any b (w.alloc (Obj.cells #[.int .i64 b.start, .int .i64 b.stop, .int .i64 b.months, .int .i64 b.rate] 37)) (Hm.out.mo.keep0 HG.out))
  cases hb : bondB b with
  | false =>
    have HF := hid (show fmtBond b = [] by unfold fmtBond; rw [hb]; rfl)
    rw [hb] at HV
    clear hb
    go_enter Tryd.func21, Tryd.ntmps21
    go_wp2_with fail
    refine HV.out.mono ?_
    rintro e w1 ⟨rfl, hg⟩
    have Hg1 := hid (gr_trans0 HG.out hg)
    clear hg
    go_wp2_with fail
    go_ret
    exact ⟨ret_text HF.out.symm, Hg1.out⟩
  | true =>
    have hF : fmtBond b = bondT b := by unfold fmtBond; rw [hb]; rfl
    rw [hb] at HV
    obtain ⟨⟨s0, s1⟩, ⟨e0, e1⟩, ⟨r0, r1⟩, m0, m1⟩ := bond_days hb
    have lq := dec_len12 (b.rate / 100) (by omega) (by omega)
    have lr := twoT_len (b.rate % 100) (by omega) (by omega)
    have ls := dateT_len (date_valid b.start s0 s1)
    have le := dateT_len (date_valid b.stop e0 e1)
    have lm := dec_len12 b.months (by omega) (by omega)
    have q1 : IntKind.i64.wrap (b.rate.tdiv 100) = b.rate / 100 := by rw [Int.tdiv_eq_ediv_of_nonneg r0]; exact IntWalk.i64_in _ (by omega)
    have q1b : IntKind.i64.wrap (b.rate / 100) = b.rate / 100 := IntWalk.i64_in _ (by omega)
    have q2 : b.rate.tmod 100 = b.rate % 100 := Int.tmod_eq_emod_of_nonneg r0
    have hq0 : 0 ≤ b.rate / 100 ∧ b.rate / 100 ≤ 30 := by omega
    have hr0 : 0 ≤ b.rate % 100 ∧ b.rate % 100 ≤ 99 := by omega
    obtain ⟨q, hq⟩ : ∃ q, b.rate / 100 = q := ⟨_, rfl⟩
    obtain ⟨r, hr⟩ : ∃ r, b.rate % 100 = r := ⟨_, rfl⟩
    have HT := hid (show dec q ++ [46] ++ twoT r ++ [32] ++ dateT (yF b.start) (mF b.start) (dF b.start) ++ [32] ++ dateT (yF b.stop) (mF b.stop) (dF b.stop) ++ [32] ++ dec b.months = bondT b by unfold bondT rateT dayT; rw [hq, hr]; simp)
    rw [hq] at lq q1 q1b hq0
    rw [hr] at lr q2 hr0
    clear hq hr
    rw [← hF] at HT
    clear hF
    have C1 := hid (fun wx hx => Itoa_any q wx (by omega) (by omega) hx)
    have C2 := hid (fun wx hx => two_any r wx (by omega) (by omega) hx)
    have C3 := hid (fun wx hx => dateOf_any b.start wx hx s0 s1)
    have C4 := hid (fun wx hx => FormatDate_any (yF b.start) (mF b.start) (dF b.start) wx hx)
    have C5 := hid (fun wx hx => dateOf_any b.stop wx hx e0 e1)
    have C6 := hid (fun wx hx => FormatDate_any (yF b.stop) (mF b.stop) (dF b.stop) wx hx)
    have C7 := hid (fun wx hx => Itoa_any b.months wx (by omega) (by omega) hx)
    have f3 : fmtDate (yF b.start) (mF b.start) (dF b.start) = dateT (yF b.start) (mF b.start) (dF b.start) := by unfold fmtDate; rw [if_pos ((dateB_iff _ _ _).2 (date_valid b.start s0 s1))]
    have f4 : fmtDate (yF b.stop) (mF b.stop) (dF b.stop) = dateT (yF b.stop) (mF b.stop) (dF b.stop) := by unfold fmtDate; rw [if_pos ((dateB_iff _ _ _).2 (date_valid b.stop e0 e1))]
    rw [f3] at C4
    rw [f4] at C6
    clear f3 f4
    generalize dateT (yF b.start) (mF b.start) (dF b.start) = A3 at *
    generalize dateT (yF b.stop) (mF b.stop) (dF b.stop) = A4 at *
    generalize yF b.start = ys at *
    generalize mF b.start = ms at *
    generalize dF b.start = ds at *
    generalize yF b.stop = ye at *
    generalize mF b.stop = me at *
    generalize dF b.stop = de at *
    generalize dec q = A1 at *
    generalize twoT r = A2 at *
    generalize dec b.months = A5 at *
    have a1 : ∀ w, (Op.stringOp .add ⟨(A1).toArray⟩ ⟨([46]).toArray⟩).run Tryd.prog w = .ok (.string ⟨(A1 ++ [46]).toArray⟩) w := fun w => add_lists _ _ (by first | (simp; done) | (simp; omega) | omega) (by first | (simp; done) | (simp; omega) | omega) w
    have a2 : ∀ w, (Op.stringOp .add ⟨(A1 ++ [46]).toArray⟩ ⟨(A2).toArray⟩).run Tryd.prog w = .ok (.string ⟨(A1 ++ [46] ++ A2).toArray⟩) w := fun w => add_lists _ _ (by first | (simp; done) | (simp; omega) | omega) (by first | (simp; done) | (simp; omega) | omega) w
    have hw2 : (A1 ++ [46] ++ A2).length ≤ 100 := by simp; omega
    obtain ⟨t1, ht1⟩ : ∃ s, A1 ++ [46] = s := ⟨_, rfl⟩
    rw [ht1] at a1 a2 HT hw2
    clear ht1
    obtain ⟨t2, ht2⟩ : ∃ s, t1 ++ A2 = s := ⟨_, rfl⟩
    rw [ht2] at a2 HT hw2
    clear ht2
    have HJ := hid (fun W N e hN => Join_four W t2 A3 A4 A5 hw2 (by omega) (by omega) (by omega) N e hN)
    clear lq lr ls le lm hq0 hr0 s0 s1 e0 e1 m0 m1 hb hw2
    go_enter Tryd.func21, Tryd.ntmps21
    go_wp2_with fail
    refine HV.out.mono ?_
    rintro e w1 ⟨rfl, hg⟩
    have Hg1 := hid (gr_trans0 HG.out hg)
    have Hb1 := hid (blk_keep Hb0.out hg (by simp))
    clear hg
    go_wp2_with fail
    refine wp_region_held_drew (S := fun w' => w'.heap[w.heap.size]? = some (Obj.cells #[.int .i64 b.start, .int .i64 b.stop, .int .i64 b.months, .int .i64 b.rate] 37) ∧ w.grownBy w' none) (by kernel_rfl) ⟨Hb1.out, gr_drew Hg1.out⟩ (fun hHeld => ?_)
    refine wpAnyH_take (i := 0) (v := ?_) rfl (by kernel_rfl) (by kernel_rfl) (by kernel_rfl) (fun _ _ _ h => h) (Or.inl ⟨by rfl, ?_⟩) hHeld ?_
    rotate_left
    · intro w9 hSw
      (obtain ⟨sb, _⟩ := hSw; have b0 := blk_cell sb 0 _ rfl; have b1 := blk_cell sb 1 _ rfl; have b2 := blk_cell sb 2 _ rfl; have b3 := blk_cell sb 3 _ rfl; clear sb)
      go_simp
      all_goals (try with_reducible rfl)
    (try simp only [Act.put]); (try simp only [List.getElem_toArray]); (try simp only [List.getElem_cons_succ]); (try simp only [List.getElem_cons_zero]); (try simp only [List.setIfInBounds_toArray]); (try simp only [List.set_cons_succ]); (try simp only [List.set_cons_zero])
    refine wpAnyH_take (i := 1) (v := ?_) rfl (by kernel_rfl) (by kernel_rfl) (by kernel_rfl) (fun _ _ _ h => h) (Or.inl ⟨by rfl, ?_⟩) hHeld ?_
    rotate_left
    · intro w9 hSw
      (obtain ⟨sb, _⟩ := hSw; have b0 := blk_cell sb 0 _ rfl; have b1 := blk_cell sb 1 _ rfl; have b2 := blk_cell sb 2 _ rfl; have b3 := blk_cell sb 3 _ rfl; clear sb)
      go_simp
      all_goals (try with_reducible rfl)
    (try simp only [Act.put]); (try simp only [List.getElem_toArray]); (try simp only [List.getElem_cons_succ]); (try simp only [List.getElem_cons_zero]); (try simp only [List.setIfInBounds_toArray]); (try simp only [List.set_cons_succ]); (try simp only [List.set_cons_zero])
    refine wpAnyH_take (i := 2) (v := ?_) rfl (by kernel_rfl) (by kernel_rfl) (by kernel_rfl) (fun _ _ _ h => h) (Or.inl ⟨by rfl, ?_⟩) hHeld ?_
    rotate_left
    · intro w9 hSw
      (obtain ⟨sb, _⟩ := hSw; have b0 := blk_cell sb 0 _ rfl; have b1 := blk_cell sb 1 _ rfl; have b2 := blk_cell sb 2 _ rfl; have b3 := blk_cell sb 3 _ rfl; clear sb)
      go_simp
      all_goals (try with_reducible rfl)
    (try simp only [Act.put]); (try simp only [List.getElem_toArray]); (try simp only [List.getElem_cons_succ]); (try simp only [List.getElem_cons_zero]); (try simp only [List.setIfInBounds_toArray]); (try simp only [List.set_cons_succ]); (try simp only [List.set_cons_zero])
    (try simp only [q1]); (try simp only [q1b])
    refine wpAnyH_take (i := 5) (v := ?_) rfl (by kernel_rfl) (by kernel_rfl) (by kernel_rfl) (fun _ _ _ h => h) (Or.inl ⟨by rfl, ?_⟩) hHeld ?_
    rotate_left
    · intro w9 hSw
      (obtain ⟨sb, _⟩ := hSw; have b0 := blk_cell sb 0 _ rfl; have b1 := blk_cell sb 1 _ rfl; have b2 := blk_cell sb 2 _ rfl; have b3 := blk_cell sb 3 _ rfl; clear sb)
      go_simp
      all_goals (try with_reducible rfl)
    (try simp only [Act.put]); (try simp only [List.getElem_toArray]); (try simp only [List.getElem_cons_succ]); (try simp only [List.getElem_cons_zero]); (try simp only [List.setIfInBounds_toArray]); (try simp only [List.set_cons_succ]); (try simp only [List.set_cons_zero])
    refine wpAnyH_take (i := 6) (v := ?_) rfl (by kernel_rfl) (by kernel_rfl) (by kernel_rfl) (fun _ _ _ h => h) (Or.inl ⟨by rfl, ?_⟩) hHeld ?_
    rotate_left
    · intro w9 hSw
      (obtain ⟨sb, _⟩ := hSw; have b0 := blk_cell sb 0 _ rfl; have b1 := blk_cell sb 1 _ rfl; have b2 := blk_cell sb 2 _ rfl; have b3 := blk_cell sb 3 _ rfl; clear sb)
      go_simp
      all_goals (try with_reducible rfl)
    (try simp only [Act.put]); (try simp only [List.getElem_toArray]); (try simp only [List.getElem_cons_succ]); (try simp only [List.getElem_cons_zero]); (try simp only [List.setIfInBounds_toArray]); (try simp only [List.set_cons_succ]); (try simp only [List.set_cons_zero])
    refine wpAnyH_take (i := 7) (v := ?_) rfl (by kernel_rfl) (by kernel_rfl) (by kernel_rfl) (fun _ _ _ h => h) (Or.inl ⟨by rfl, ?_⟩) hHeld ?_
    rotate_left
    · intro w9 hSw
      (obtain ⟨sb, _⟩ := hSw; have b0 := blk_cell sb 0 _ rfl; have b1 := blk_cell sb 1 _ rfl; have b2 := blk_cell sb 2 _ rfl; have b3 := blk_cell sb 3 _ rfl; clear sb)
      go_simp
      all_goals (try with_reducible rfl)
    (try simp only [Act.put]); (try simp only [List.getElem_toArray]); (try simp only [List.getElem_cons_succ]); (try simp only [List.getElem_cons_zero]); (try simp only [List.setIfInBounds_toArray]); (try simp only [List.set_cons_succ]); (try simp only [List.set_cons_zero])
    (try simp only [q2])
    refine wpAnyH_take (i := 10) (v := ?_) rfl (by kernel_rfl) (by kernel_rfl) (by kernel_rfl) (fun _ _ _ h => h) (Or.inl ⟨by rfl, ?_⟩) hHeld ?_
    rotate_left
    · intro w9 hSw
      (obtain ⟨sb, _⟩ := hSw; have b0 := blk_cell sb 0 _ rfl; have b1 := blk_cell sb 1 _ rfl; have b2 := blk_cell sb 2 _ rfl; have b3 := blk_cell sb 3 _ rfl; clear sb)
      go_simp
      all_goals (try with_reducible rfl)
    (try simp only [Act.put]); (try simp only [List.getElem_toArray]); (try simp only [List.getElem_cons_succ]); (try simp only [List.getElem_cons_zero]); (try simp only [List.setIfInBounds_toArray]); (try simp only [List.set_cons_succ]); (try simp only [List.set_cons_zero])
    refine wpAnyH_take (i := 11) (v := ?_) rfl (by kernel_rfl) (by kernel_rfl) (by kernel_rfl) (fun _ _ _ h => h) (Or.inl ⟨by rfl, ?_⟩) hHeld ?_
    rotate_left
    · intro w9 hSw
      (obtain ⟨sb, _⟩ := hSw; have b0 := blk_cell sb 0 _ rfl; have b1 := blk_cell sb 1 _ rfl; have b2 := blk_cell sb 2 _ rfl; have b3 := blk_cell sb 3 _ rfl; clear sb)
      go_simp
      all_goals (try with_reducible rfl)
    (try simp only [Act.put]); (try simp only [List.getElem_toArray]); (try simp only [List.getElem_cons_succ]); (try simp only [List.getElem_cons_zero]); (try simp only [List.setIfInBounds_toArray]); (try simp only [List.set_cons_succ]); (try simp only [List.set_cons_zero])
    refine wpAnyH_take (i := 14) (v := ?_) rfl (by kernel_rfl) (by kernel_rfl) (by kernel_rfl) (fun _ _ _ h => h) (Or.inl ⟨by rfl, ?_⟩) hHeld ?_
    rotate_left
    · intro w9 hSw
      (obtain ⟨sb, _⟩ := hSw; have b0 := blk_cell sb 0 _ rfl; have b1 := blk_cell sb 1 _ rfl; have b2 := blk_cell sb 2 _ rfl; have b3 := blk_cell sb 3 _ rfl; clear sb)
      go_simp
      all_goals (try with_reducible rfl)
    (try simp only [Act.put]); (try simp only [List.getElem_toArray]); (try simp only [List.getElem_cons_succ]); (try simp only [List.getElem_cons_zero]); (try simp only [List.setIfInBounds_toArray]); (try simp only [List.set_cons_succ]); (try simp only [List.set_cons_zero])
    refine wpAnyH_take (i := 15) (v := ?_) rfl (by kernel_rfl) (by kernel_rfl) (by kernel_rfl) (fun _ _ _ h => h) (Or.inl ⟨by rfl, ?_⟩) hHeld ?_
    rotate_left
    · intro w9 hSw
      (obtain ⟨sb, _⟩ := hSw; have b0 := blk_cell sb 0 _ rfl; have b1 := blk_cell sb 1 _ rfl; have b2 := blk_cell sb 2 _ rfl; have b3 := blk_cell sb 3 _ rfl; clear sb)
      go_simp
      all_goals (try with_reducible rfl)
    (try simp only [Act.put]); (try simp only [List.getElem_toArray]); (try simp only [List.getElem_cons_succ]); (try simp only [List.getElem_cons_zero]); (try simp only [List.setIfInBounds_toArray]); (try simp only [List.set_cons_succ]); (try simp only [List.set_cons_zero])
    refine wpAnyH_take (i := 18) (v := ?_) rfl (by kernel_rfl) (by kernel_rfl) (by kernel_rfl) (fun _ _ _ h => h) (Or.inl ⟨by rfl, ?_⟩) hHeld ?_
    rotate_left
    · intro w9 hSw
      (obtain ⟨sb, _⟩ := hSw; have b0 := blk_cell sb 0 _ rfl; have b1 := blk_cell sb 1 _ rfl; have b2 := blk_cell sb 2 _ rfl; have b3 := blk_cell sb 3 _ rfl; clear sb)
      go_simp
      all_goals (try with_reducible rfl)
    (try simp only [Act.put]); (try simp only [List.getElem_toArray]); (try simp only [List.getElem_cons_succ]); (try simp only [List.getElem_cons_zero]); (try simp only [List.setIfInBounds_toArray]); (try simp only [List.set_cons_succ]); (try simp only [List.set_cons_zero])
    refine wpAnyH_take (i := 19) (v := ?_) rfl (by kernel_rfl) (by kernel_rfl) (by kernel_rfl) (fun _ _ _ h => h) (Or.inl ⟨by rfl, ?_⟩) hHeld ?_
    rotate_left
    · intro w9 hSw
      (obtain ⟨sb, _⟩ := hSw; have b0 := blk_cell sb 0 _ rfl; have b1 := blk_cell sb 1 _ rfl; have b2 := blk_cell sb 2 _ rfl; have b3 := blk_cell sb 3 _ rfl; clear sb)
      go_simp
      all_goals (try with_reducible rfl)
    (try simp only [Act.put]); (try simp only [List.getElem_toArray]); (try simp only [List.getElem_cons_succ]); (try simp only [List.getElem_cons_zero]); (try simp only [List.setIfInBounds_toArray]); (try simp only [List.set_cons_succ]); (try simp only [List.set_cons_zero])
    clear q1 q1b q2
    refine wpAnyH_ready (rs := [3]) (by kernel_rfl) (by simp) ?_
    refine AllReadyH.cons rfl (fun K' hK' => ?_) AllReadyH.nil
    go_simp
    refine (C1.out _ (Hm.out.keep0 hHeld.2)).mono ?_
    rintro e' w2 ⟨rfl, hg⟩
    (try simp only [])
    refine hK'.out _ _ ⟨blk_keep hHeld.1 hg (by simp), gr_trans0 hHeld.2 hg⟩ (fun hHeldN => ?_)
    clear hHeld hg
    have hHeld := hHeldN
    clear hK' K' hHeldN
    (try simp only [Act.put]); (try simp only [List.getElem_toArray]); (try simp only [List.getElem_cons_succ]); (try simp only [List.getElem_cons_zero]); (try simp only [List.setIfInBounds_toArray]); (try simp only [List.set_cons_succ]); (try simp only [List.set_cons_zero])
    refine wpAnyH_take (i := 4) (v := ?_) rfl (by kernel_rfl) (by kernel_rfl) (by kernel_rfl) (fun _ _ _ h => h) (Or.inl ⟨by rfl, ?_⟩) hHeld ?_
    rotate_left
    · intro w9 hSw
      clear hSw
      go_simp
      all_goals (try with_reducible rfl)
    (try simp only [Act.put]); (try simp only [List.getElem_toArray]); (try simp only [List.getElem_cons_succ]); (try simp only [List.getElem_cons_zero]); (try simp only [List.setIfInBounds_toArray]); (try simp only [List.set_cons_succ]); (try simp only [List.set_cons_zero])
    refine wpAnyH_ready (rs := [8]) (by kernel_rfl) (by simp) ?_
    refine AllReadyH.cons rfl (fun K' hK' => ?_) AllReadyH.nil
    go_simp
    refine (C2.out _ (Hm.out.keep0 hHeld.2)).mono ?_
    rintro e' w3 ⟨rfl, hg⟩
    (try simp only [])
    refine hK'.out _ _ ⟨blk_keep hHeld.1 hg (by simp), gr_trans0 hHeld.2 hg⟩ (fun hHeldN => ?_)
    clear hHeld hg
    have hHeld := hHeldN
    clear hK' K' hHeldN
    (try simp only [Act.put]); (try simp only [List.getElem_toArray]); (try simp only [List.getElem_cons_succ]); (try simp only [List.getElem_cons_zero]); (try simp only [List.setIfInBounds_toArray]); (try simp only [List.set_cons_succ]); (try simp only [List.set_cons_zero])
    refine wpAnyH_take (i := 9) (v := ?_) rfl (by kernel_rfl) (by kernel_rfl) (by kernel_rfl) (fun _ _ _ h => h) (Or.inl ⟨by rfl, ?_⟩) hHeld ?_
    rotate_left
    · intro w9 hSw
      clear hSw
      go_simp
      all_goals (try with_reducible rfl)
    (try simp only [Act.put]); (try simp only [List.getElem_toArray]); (try simp only [List.getElem_cons_succ]); (try simp only [List.getElem_cons_zero]); (try simp only [List.setIfInBounds_toArray]); (try simp only [List.set_cons_succ]); (try simp only [List.set_cons_zero])
    refine wpAnyH_ready (rs := [12]) (by kernel_rfl) (by simp) ?_
    refine AllReadyH.cons rfl (fun K' hK' => ?_) AllReadyH.nil
    go_simp
    refine (C3.out _ (Hm.out.mo.keep0 hHeld.2)).mono ?_
    rintro e' w4 ⟨rfl, hg⟩
    (try simp only [])
    refine hK'.out _ _ ⟨blk_keep hHeld.1 hg (by simp), gr_trans0 hHeld.2 hg⟩ (fun hHeldN => ?_)
    clear hHeld hg
    have hHeld := hHeldN
    clear hK' K' hHeldN
    (try simp only [Act.put]); (try simp only [List.getElem_toArray]); (try simp only [List.getElem_cons_succ]); (try simp only [List.getElem_cons_zero]); (try simp only [List.setIfInBounds_toArray]); (try simp only [List.set_cons_succ]); (try simp only [List.set_cons_zero])
    refine wpAnyH_ready (rs := [13]) (by kernel_rfl) (by simp) ?_
    refine AllReadyH.cons rfl (fun K' hK' => ?_) AllReadyH.nil
    go_simp
    refine (C4.out _ (Hm.out.keep0 hHeld.2)).mono ?_
    rintro e' w5 ⟨rfl, hg⟩
    (try simp only [])
    refine hK'.out _ _ ⟨blk_keep hHeld.1 hg (by simp), gr_trans0 hHeld.2 hg⟩ (fun hHeldN => ?_)
    clear hHeld hg
    have hHeld := hHeldN
    clear hK' K' hHeldN
    (try simp only [Act.put]); (try simp only [List.getElem_toArray]); (try simp only [List.getElem_cons_succ]); (try simp only [List.getElem_cons_zero]); (try simp only [List.setIfInBounds_toArray]); (try simp only [List.set_cons_succ]); (try simp only [List.set_cons_zero])
    refine wpAnyH_ready (rs := [16]) (by kernel_rfl) (by simp) ?_
    refine AllReadyH.cons rfl (fun K' hK' => ?_) AllReadyH.nil
    go_simp
    refine (C5.out _ (Hm.out.mo.keep0 hHeld.2)).mono ?_
    rintro e' w6 ⟨rfl, hg⟩
    (try simp only [])
    refine hK'.out _ _ ⟨blk_keep hHeld.1 hg (by simp), gr_trans0 hHeld.2 hg⟩ (fun hHeldN => ?_)
    clear hHeld hg
    have hHeld := hHeldN
    clear hK' K' hHeldN
    (try simp only [Act.put]); (try simp only [List.getElem_toArray]); (try simp only [List.getElem_cons_succ]); (try simp only [List.getElem_cons_zero]); (try simp only [List.setIfInBounds_toArray]); (try simp only [List.set_cons_succ]); (try simp only [List.set_cons_zero])
    refine wpAnyH_ready (rs := [17]) (by kernel_rfl) (by simp) ?_
    refine AllReadyH.cons rfl (fun K' hK' => ?_) AllReadyH.nil
    go_simp
    refine (C6.out _ (Hm.out.keep0 hHeld.2)).mono ?_
    rintro e' w7 ⟨rfl, hg⟩
    (try simp only [])
    refine hK'.out _ _ ⟨blk_keep hHeld.1 hg (by simp), gr_trans0 hHeld.2 hg⟩ (fun hHeldN => ?_)
    clear hHeld hg
    have hHeld := hHeldN
    clear hK' K' hHeldN
    (try simp only [Act.put]); (try simp only [List.getElem_toArray]); (try simp only [List.getElem_cons_succ]); (try simp only [List.getElem_cons_zero]); (try simp only [List.setIfInBounds_toArray]); (try simp only [List.set_cons_succ]); (try simp only [List.set_cons_zero])
    refine wpAnyH_ready (rs := [20]) (by kernel_rfl) (by simp) ?_
    refine AllReadyH.cons rfl (fun K' hK' => ?_) AllReadyH.nil
    go_simp
    refine (C7.out _ (Hm.out.keep0 hHeld.2)).mono ?_
    rintro e' w8 ⟨rfl, hg⟩
    (try simp only [])
    refine hK'.out _ _ ⟨blk_keep hHeld.1 hg (by simp), gr_trans0 hHeld.2 hg⟩ (fun hHeldN => ?_)
    clear hHeld hg
    have hHeld := hHeldN
    clear hK' K' hHeldN
    (try simp only [Act.put]); (try simp only [List.getElem_toArray]); (try simp only [List.getElem_cons_succ]); (try simp only [List.getElem_cons_zero]); (try simp only [List.setIfInBounds_toArray]); (try simp only [List.set_cons_succ]); (try simp only [List.set_cons_zero])
    refine wpAnyH_ready (rs := [21]) (by kernel_rfl) (by simp) ?_
    refine AllReadyH.cons rfl (fun K' hK' => ?_) AllReadyH.nil
    go_simp
    have HN := hid (heap_alloc_new w8 (Obj.cells #[.string ⟨(t2).toArray⟩, .string ⟨(A3).toArray⟩, .string ⟨(A4).toArray⟩, .string ⟨(A5).toArray⟩] 9))
    refine hK'.out _ _ ⟨blk_alloc hHeld.1 _, gr_alloc hHeld.2 _⟩ (fun hHeldN => ?_)
    clear hHeld hK' K'
    (try simp only [Act.put]); (try simp only [List.getElem_toArray]); (try simp only [List.getElem_cons_succ]); (try simp only [List.getElem_cons_zero]); (try simp only [List.setIfInBounds_toArray]); (try simp only [List.set_cons_succ]); (try simp only [List.set_cons_zero])
    refine wpAnyH_take (i := 22) (v := ?_) rfl (by kernel_rfl) (by kernel_rfl) (by kernel_rfl) (fun _ _ _ h => h) (Or.inl ⟨by rfl, ?_⟩) hHeldN ?_
    rotate_left
    · intro w9 hSw
      clear hSw
      go_simp
      all_goals (try with_reducible rfl)
    (try simp only [Act.put]); (try simp only [List.getElem_toArray]); (try simp only [List.getElem_cons_succ]); (try simp only [List.getElem_cons_zero]); (try simp only [List.setIfInBounds_toArray]); (try simp only [List.set_cons_succ]); (try simp only [List.set_cons_zero])
    refine wpAnyH_done (by kernel_rfl) ?_ _
    have HgF := hid hHeldN.2
    clear hHeldN
    go_wp2_with fail
    refine (HJ.out _ _ _ HN.out).mono ?_
    rintro e w9 ⟨rfl, hg⟩
    have Hg9 := hid (gr_trans0 HgF.out hg)
    clear hg
    go_wp2_with fail
    go_ret
    exact ⟨ret_text (by have := HT.out; simpa using this), Hg9.out⟩

end Go.Proofs.YtpomlbloeejbjaaDoor

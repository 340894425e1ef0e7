/- Packed: SpecParseBond. -/
import Derived.Test.YtielicmjdhmcjaaGreatDoorRows
import Derived.Test.YtielicmjdhmcjaaGreatDoorPk36
import Derived.Test.YtielicmjdhmcjaaGreatDoorPk27
import Derived.Test.YtielicmjdhmcjaaGreatDoorPk39
/- ParseBond of the reference. -/
namespace Go.Proofs.YtielicmjdhmcjaaGreatDoor
open Go.RowKit

theorem spb_ret {l : List UInt8} {b : Bond} {ok : Bool} (h : pbV l = b ∧ pbOk l = ok) : Ending.returned (.tuple #[.agg #[.int .i64 b.start, .int .i64 b.stop, .int .i64 b.months, .int .i64 b.rate], .bool ok]) = .returned (.tuple #[.agg #[.int .i64 (pbV l).start, .int .i64 (pbV l).stop, .int .i64 (pbV l).months, .int .i64 (pbV l).rate], .bool (pbOk l)]) := by
  rw [h.1, h.2]
theorem four_words {α : Type} (xs : List α) (h : xs.length = 4) : ∃ a b c d, xs = [a, b, c, d] := by
  match xs, h with
  | [a, b, c, d], _ => exact ⟨a, b, c, d, rfl⟩
theorem words_at {w : World} {base g n cap : Nat} {ws : List (List UInt8)} (h : w.ownsRow base 9 1 (.slice (some ⟨g, 0, none⟩) n cap) n (ws.flatMap strL.cells)) (hl : ws.length = n) (hn : n ≤ 2000001) (k : Nat) (x : List UInt8) (hk : ws[k]? = some x) : w.cell? ⟨g, k, none⟩ = some (.string ⟨(x).toArray⟩) := by
  have hs := Sl.of_own (L := strL) h hl (by unfold maxLen; omega)
  obtain ⟨b, off, e, _, hc⟩ := hs.mem (by have := lt_of_at hk; omega)
  have := hc k x hk 0 _ rfl
  cases e
  simpa [strL] using this
theorem spl_len (xs : List UInt8) : ∀ cur x, x ∈ spl cur xs → x.length ≤ cur.length + xs.length := by
  induction xs with
  | nil =>
    intro cur x h
    rw [spl, List.mem_singleton] at h
    subst h; simp
  | cons c xs ih =>
    intro cur x h
    rw [spl] at h
    split at h
    · rcases List.mem_cons.1 h with h | h
      · subst h; simp
      · have := ih [] x h; simp at this ⊢; omega
    · have := ih _ x h; simp at this ⊢; omega
theorem pd_valid {b : List UInt8} (h : pdOk b = true) : ValidYMD (pdY b) (pdM b) (pdD b) ∧ numF (pdY b) (pdM b) (pdD b) = numF (dY b 0) (dM b 0) (dD b 0) := by
  have a := (dateB_iff _ _ _).1 (pd_is h).1
  unfold pdY pdM pdD
  rw [if_pos h, if_pos h, if_pos h]
  exact ⟨a, rfl⟩

theorem cut_at_end {G : Prop} {facts : World → Nat → Prop} {Φ : World → Nat → Prop} (tail : ∀ WF Nb, facts WF Nb → Φ WF Nb) (main : (∀ WF Nb, facts WF Nb → Φ WF Nb) → G) : G := main tail

set_option maxRecDepth 100000 in
set_option maxHeartbeats 8000000 in
theorem specParseBond_any (l : List UInt8) (w : World) (hl : l.length ≤ 2000000) :
    Calls Tryz.prog 60 #[.string ⟨(l).toArray⟩] w fun e w' => e = .returned (.tuple #[.agg #[.int .i64 (pbV l).start, .int .i64 (pbV l).stop, .int .i64 (pbV l).months, .int .i64 (pbV l).rate], .bool (pbOk l)]) ∧ w.grownBy w' none := by
  have Hz0 := hid (heap_alloc_new w (Obj.cells #[.int .i64 0, .int .i64 0, .int .i64 0, .int .i64 0] 37))
  have Hg0 := hid (gr_alloc (gr0 w) (Obj.cells #[.int .i64 0, .int .i64 0, .int .i64 0, .int .i64 0] 37))
  have hno : pbOk l = false → pbV l = zeroB ∧ pbOk l = false := fun h => ⟨by unfold pbV; rw [h]; rfl, h⟩
  have HW := hid (splitWords_any l (w.alloc (Obj.cells #[.int .i64 0, .int .i64 0, .int .i64 0, .int .i64 0] 37)) hl)
  go_enter Tryz.func60, Tryz.ntmps60
  go_wp2_with fail
  refine HW.out.mono ?_
  rintro e' w1 ⟨g, n, cap, rfl, hown, hn, hn2, hg⟩
  have Hg1 := hid (gr_trans0 Hg0.out hg)
  have Hz1 := hid (blk_keep Hz0.out hg (by simp))
  have Hown := hid hown
  have hgA : w.heap.size < g := by have := (hown.lt g rfl).1; simp at this; omega
  clear hg hown HW
  by_cases h4 : n = 4
  case neg =>
    have HE := hid (hno (by
      cases h : pbOk l with
      | false => rfl
      | true => exact (h4 (hn.symm.trans (pb_words h))).elim))
    have hd : ((n : Int) != 4) = true := by simp; omega
    have z0 := blk_cell Hz1.out 0 _ rfl
    have z1 := blk_cell Hz1.out 1 _ rfl
    have z2 := blk_cell Hz1.out 2 _ rfl
    have z3 := blk_cell Hz1.out 3 _ rfl
    have g0 := blk_frozen Hz1.out 0
    have g1 := blk_frozen Hz1.out 1
    have g2 := blk_frozen Hz1.out 2
    have g3 := blk_frozen Hz1.out 3
    clear h4 hn hno
    go_wp2_with fail
    refine bodyPost_ret (v := .tuple #[.agg #[.int .i64 0, .int .i64 0, .int .i64 0, .int .i64 0], .bool false]) (by simp [results, Tryz.results60, go_sem, *]) rfl ⟨spb_ret HE.out, ?_⟩
    repeat (first | exact Hg1.out | refine gr_setCell ?_ (.inr (Nat.le_refl _)) _)
  subst h4
  obtain ⟨a, b, c, d, hws⟩ := four_words _ hn
  have hyes := fun h => pb_yes h hws
  have hbl : b.length ≤ 2000000 := by have := spl_len l [] b (by rw [hws]; simp); simp at this; omega
  have hcl : c.length ≤ 2000000 := by have := spl_len l [] c (by rw [hws]; simp); simp at this; omega
  rw [hws] at Hown hn
  have c0 := words_at Hown.out hn hn2 0 a rfl
  have c1 := words_at Hown.out hn hn2 1 b rfl
  have c2 := words_at Hown.out hn hn2 2 c rfl
  have c3 := words_at Hown.out hn hn2 3 d rfl
  clear hws hn hn2 Hown
  by_cases ha1 : a.length < 4
  · have HE := hid (hno (by
      cases h : pbOk l with
      | false => rfl
      | true => have := (hyes h).1.1; omega))
    have hd : decide (a.length < 4) = true := by simpa using ha1
    have hdi : decide ((a.length : Int) < 4) = true := by simp; omega
    have z0 := blk_cell Hz1.out 0 _ rfl
    have z1 := blk_cell Hz1.out 1 _ rfl
    have z2 := blk_cell Hz1.out 2 _ rfl
    have z3 := blk_cell Hz1.out 3 _ rfl
    have g0 := blk_frozen Hz1.out 0
    have g1 := blk_frozen Hz1.out 1
    have g2 := blk_frozen Hz1.out 2
    have g3 := blk_frozen Hz1.out 3
    clear ha1 hno hyes
    go_wp2_with fail
    refine bodyPost_ret (v := .tuple #[.agg #[.int .i64 0, .int .i64 0, .int .i64 0, .int .i64 0], .bool false]) (by simp [results, Tryz.results60, go_sem, *]) rfl ⟨spb_ret HE.out, ?_⟩
    repeat (first | exact Hg1.out | refine gr_setCell ?_ (.inr (Nat.le_refl _)) _)
  have hd1 : decide ((a.length : Int) < 4) = false := by simp; omega
  by_cases ha2 : 5 < a.length
  · have HE := hid (hno (by
      cases h : pbOk l with
      | false => rfl
      | true => have := (hyes h).1.2.1; omega))
    have hd : decide ((5 : Int) < a.length) = true := by simp; omega
    have z0 := blk_cell Hz1.out 0 _ rfl
    have z1 := blk_cell Hz1.out 1 _ rfl
    have z2 := blk_cell Hz1.out 2 _ rfl
    have z3 := blk_cell Hz1.out 3 _ rfl
    have g0 := blk_frozen Hz1.out 0
    have g1 := blk_frozen Hz1.out 1
    have g2 := blk_frozen Hz1.out 2
    have g3 := blk_frozen Hz1.out 3
    clear ha1 ha2 hno hyes
    go_wp2_with fail
    refine bodyPost_ret (v := .tuple #[.agg #[.int .i64 0, .int .i64 0, .int .i64 0, .int .i64 0], .bool false]) (by simp [results, Tryz.results60, go_sem, *]) rfl ⟨spb_ret HE.out, ?_⟩
    repeat (first | exact Hg1.out | refine gr_setCell ?_ (.inr (Nat.le_refl _)) _)
  have hd2 : decide ((5 : Int) < a.length) = false := by simp; omega
  by_cases ha3 : 2 < d.length
  · have HE := hid (hno (by
      cases h : pbOk l with
      | false => rfl
      | true => have := (hyes h).1.2.2; omega))
    have hd : decide ((2 : Int) < d.length) = true := by simp; omega
    have z0 := blk_cell Hz1.out 0 _ rfl
    have z1 := blk_cell Hz1.out 1 _ rfl
    have z2 := blk_cell Hz1.out 2 _ rfl
    have z3 := blk_cell Hz1.out 3 _ rfl
    have g0 := blk_frozen Hz1.out 0
    have g1 := blk_frozen Hz1.out 1
    have g2 := blk_frozen Hz1.out 2
    have g3 := blk_frozen Hz1.out 3
    clear ha1 ha2 ha3 hno hyes
    go_wp2_with fail
    refine bodyPost_ret (v := .tuple #[.agg #[.int .i64 0, .int .i64 0, .int .i64 0, .int .i64 0], .bool false]) (by simp [results, Tryz.results60, go_sem, *]) rfl ⟨spb_ret HE.out, ?_⟩
    repeat (first | exact Hg1.out | refine gr_setCell ?_ (.inr (Nat.le_refl _)) _)
  have hd3 : decide ((2 : Int) < d.length) = false := by simp; omega
  go_wp2_with fail
  -- the dates
  have hv1 := fun h => @pd_valid b h
  have hv2 := fun h => @pd_valid c h
  refine (specParseDate_any b w1 hbl).mono ?_
  rintro e' w2 ⟨rfl, hg⟩
  generalize pdY b = y1 at *
  generalize pdM b = m1 at *
  generalize pdD b = d1 at *
  generalize hok1 : pdOk b = ok1 at *
  have Hg2 := hid (gr_alloc (gr_trans0 Hg1.out hg) (Obj.cells #[.int .i64 y1, .int .i64 m1, .int .i64 d1] 81))
  have Hz2 := hid (blk_alloc (blk_keep Hz1.out hg (by simp)) (Obj.cells #[.int .i64 y1, .int .i64 m1, .int .i64 d1] 81))
  have hg2 := gr_alloc (gr_trans0 (gr0 _) hg) (Obj.cells #[.int .i64 y1, .int .i64 m1, .int .i64 d1] 81)
  have HA2 := hid hg2
  have HD2 := hid (heap_alloc_new w2 (Obj.cells #[.int .i64 y1, .int .i64 m1, .int .i64 d1] 81))
  have j0 := hg2.cell c0 (by simp)
  have j1 := hg2.cell c1 (by simp)
  have j2 := hg2.cell c2 (by simp)
  have j3 := hg2.cell c3 (by simp)
  have hsz2 : w2.heap.size < (w2.alloc (Obj.cells #[.int .i64 y1, .int .i64 m1, .int .i64 d1] 81)).heap.size := by simp
  have k2 := hg.cell c2 (by simp)
  clear hg hg2 hok1
  go_wp2_with fail
  refine (specParseDate_any c _ hcl).mono ?_
  rintro e' w3 ⟨rfl, hg⟩
  clear k2
  generalize pdY c = y2 at *
  generalize pdM c = m2 at *
  generalize pdD c = d2 at *
  generalize hok2 : pdOk c = ok2 at *
  generalize (w2.alloc (Obj.cells #[.int .i64 y1, .int .i64 m1, .int .i64 d1] 81)) = V2 at *
  have Hg3 := hid (gr_alloc (gr_trans0 Hg2.out hg) (Obj.cells #[.int .i64 y2, .int .i64 m2, .int .i64 d2] 81))
  have Hz3 := hid (blk_alloc (blk_keep Hz2.out hg (by simp)) (Obj.cells #[.int .i64 y2, .int .i64 m2, .int .i64 d2] 81))
  have HD3 := hid (blk_alloc (blk_keep HD2.out hg (by simp)) (Obj.cells #[.int .i64 y2, .int .i64 m2, .int .i64 d2] 81))
  have HF3 := hid (heap_alloc_new w3 (Obj.cells #[.int .i64 y2, .int .i64 m2, .int .i64 d2] 81))
  have hg2 := gr_alloc (gr_trans0 (gr0 _) hg) (Obj.cells #[.int .i64 y2, .int .i64 m2, .int .i64 d2] 81)
  clear c0 c1 c2 c3
  have c0 := hg2.cell j0 (by simp)
  have c3 := hg2.cell j3 (by simp)
  have x0 := hg.cell j0 (by simp)
  have hDD : w2.heap.size ≠ w3.heap.size := by have := gr_le hg; omega
  clear hg hg2 hok2 j0 j1 j2 j3 Hg1 Hg2 Hz1 Hz2 HD2 HA2
  generalize w2.heap.size = D1 at *
  generalize hN : a.length = N at *
  have e1 : ((N : Int) - 3) = ((N - 3 : Nat) : Int) := by omega
  have e2 : ((N : Int) - 2) = ((N - 2 : Nat) : Int) := by omega
  have N1 : Hid (∀ wx, Calls Tryz.prog 94 #[.string ⟨(a).toArray⟩, .int .i64 0, .int .i64 ((N : Int) - 3)] wx fun e w' => e = .returned (.int .i64 (numS a 0 (N - 3))) ∧ wx = w') := hid (fun wx => by rw [e1]; exact number5_any a 0 (N - 3) wx (by omega) (by omega) (by omega))
  have N2 : Hid (∀ wx, Calls Tryz.prog 94 #[.string ⟨(a).toArray⟩, .int .i64 ((N : Int) - 2), .int .i64 N] wx fun e w' => e = .returned (.int .i64 (numS a (N - 2) 2)) ∧ wx = w') := hid (fun wx => by
    rw [e2]
    have := number5_any a (N - 2) N wx (by omega) (by omega) (by omega)
    rwa [show N - (N - 2) = 2 by omega] at this)
  have b1 := numS_bd a 0 (N - 3) (by omega)
  have b2 := numS_bd a (N - 2) 2 (by omega)
  generalize numS a 0 (N - 3) = v1 at *
  generalize numS a (N - 2) 2 = v2 at *
  clear e1 e2
  cases ok1 with
  | false =>
    have HE := hid (hno (by
      cases h : pbOk l with
      | false => rfl
      | true => have := (hyes h).2.1.1; cases this))
    have z0 := blk_cell Hz3.out 0 _ rfl
    have z1 := blk_cell Hz3.out 1 _ rfl
    have z2 := blk_cell Hz3.out 2 _ rfl
    have z3 := blk_cell Hz3.out 3 _ rfl
    have g0 := blk_frozen Hz3.out 0
    have g1 := blk_frozen Hz3.out 1
    have g2 := blk_frozen Hz3.out 2
    have g3 := blk_frozen Hz3.out 3
    clear hno hyes hv1 hv2
    go_wp2_with fail
    refine bodyPost_ret (v := .tuple #[.agg #[.int .i64 0, .int .i64 0, .int .i64 0, .int .i64 0], .bool false]) (by simp [results, Tryz.results60, go_sem, *]) rfl ⟨spb_ret HE.out, ?_⟩
    repeat (first | exact Hg3.out | refine gr_setCell ?_ (.inr (Nat.le_refl _)) _)
  | true =>
  cases ok2 with
  | false =>
    have HE := hid (hno (by
      cases h : pbOk l with
      | false => rfl
      | true => have := (hyes h).2.1.2; cases this))
    have z0 := blk_cell Hz3.out 0 _ rfl
    have z1 := blk_cell Hz3.out 1 _ rfl
    have z2 := blk_cell Hz3.out 2 _ rfl
    have z3 := blk_cell Hz3.out 3 _ rfl
    have g0 := blk_frozen Hz3.out 0
    have g1 := blk_frozen Hz3.out 1
    have g2 := blk_frozen Hz3.out 2
    have g3 := blk_frozen Hz3.out 3
    clear hno hyes hv1 hv2
    go_wp2_with fail
    refine bodyPost_ret (v := .tuple #[.agg #[.int .i64 0, .int .i64 0, .int .i64 0, .int .i64 0], .bool false]) (by simp [results, Tryz.results60, go_sem, *]) rfl ⟨spb_ret HE.out, ?_⟩
    repeat (first | exact Hg3.out | refine gr_setCell ?_ (.inr (Nat.le_refl _)) _)
  | true =>
  have HV1 := hid (hv1 rfl)
  have HV2 := hid (hv2 rfl)
  clear hv1 hv2
  by_cases hw1 : v1 < 0
  · have HE := hid (hno (by
      cases h : pbOk l with
      | false => rfl
      | true =>
        have h1 := (hyes h).2.2.2.1.1
        have h2 := bond_days (pb_is h).1
        omega))
    have hd4 : decide (v1 < 0) = true := by simpa using hw1
    have z0 := blk_cell Hz3.out 0 _ rfl
    have z1 := blk_cell Hz3.out 1 _ rfl
    have z2 := blk_cell Hz3.out 2 _ rfl
    have z3 := blk_cell Hz3.out 3 _ rfl
    have g0 := blk_frozen Hz3.out 0
    have g1 := blk_frozen Hz3.out 1
    have g2 := blk_frozen Hz3.out 2
    have g3 := blk_frozen Hz3.out 3
    clear hno hyes hw1
    go_wp2_with fail
    refine (N1.out _).mono ?_
    rintro e' w4 ⟨rfl, rfl⟩
    go_wp2_with fail
    refine bodyPost_ret (v := .tuple #[.agg #[.int .i64 0, .int .i64 0, .int .i64 0, .int .i64 0], .bool false]) (by simp [results, Tryz.results60, go_sem, *]) rfl ⟨spb_ret HE.out, ?_⟩
    repeat (first | exact Hg3.out | refine gr_setCell ?_ (.inr (Nat.le_refl _)) _)
  have hd4 : decide (v1 < 0) = false := by simpa using hw1
  go_wp2_with fail
  refine (N1.out _).mono ?_
  rintro e' w4 ⟨rfl, rfl⟩
  go_wp2_with fail
  refine (N2.out _).mono ?_
  rintro e' w4 ⟨rfl, rfl⟩
  by_cases hw2 : v2 < 0
  · have HE := hid (hno (by
      cases h : pbOk l with
      | false => rfl
      | true =>
        have h1 := (hyes h).2.2.2.1.2
        have h2 := bond_days (pb_is h).1
        omega))
    have hd5 : decide (v2 < 0) = true := by simpa using hw2
    have z0 := blk_cell Hz3.out 0 _ rfl
    have z1 := blk_cell Hz3.out 1 _ rfl
    have z2 := blk_cell Hz3.out 2 _ rfl
    have z3 := blk_cell Hz3.out 3 _ rfl
    have g0 := blk_frozen Hz3.out 0
    have g1 := blk_frozen Hz3.out 1
    have g2 := blk_frozen Hz3.out 2
    have g3 := blk_frozen Hz3.out 3
    clear hno hyes hw1 hw2
    go_wp2_with fail
    refine bodyPost_ret (v := .tuple #[.agg #[.int .i64 0, .int .i64 0, .int .i64 0, .int .i64 0], .bool false]) (by simp [results, Tryz.results60, go_sem, *]) rfl ⟨spb_ret HE.out, ?_⟩
    repeat (first | exact Hg3.out | refine gr_setCell ?_ (.inr (Nat.le_refl _)) _)
  have hd5 : decide (v2 < 0) = false := by simpa using hw2
  go_wp2_with fail
  -- the bond
  have hsD : w3.heap.size < (w3.alloc (Obj.cells #[.int .i64 y2, .int .i64 m2, .int .i64 d2] 81)).heap.size := by simp
  generalize (w3.alloc (Obj.cells #[.int .i64 y2, .int .i64 m2, .int .i64 d2] 81)) = V3 at *
  generalize w3.heap.size = D2 at *
  have K1 := hid (fun wx => specdayOf_any y1 m1 d1 wx HV1.out.1)
  have K2 := hid (fun wx => specdayOf_any y2 m2 d2 wx HV2.out.1)
  have hM : d.length ≤ 2 := by omega
  have N3 : Hid (∀ wx, Calls Tryz.prog 94 #[.string ⟨(d).toArray⟩, .int .i64 0, .int .i64 (d.length : Int)] wx fun e w' => e = .returned (.int .i64 (numS d 0 d.length)) ∧ wx = w') := hid (fun wx => number5_any d 0 d.length wx (by omega) (by omega) (by omega))
  have b3 := numS_bd d 0 d.length (by omega)
  have hcur : pbOk l = true → (⟨numF y1 m1 d1, numF y2 m2 d2, numS d 0 d.length, 100 * v1 + v2⟩ : Bond) = curB l := fun h => by
    obtain ⟨_, _, ⟨f1, f2⟩, ⟨f3, f4⟩, f5⟩ := hyes h
    rw [HV1.out.2, f1, HV2.out.2, f2, f3, f4, f5]
    exact pb_bond
  generalize numF y1 m1 d1 = S at *
  generalize numF y2 m2 d2 = E at *
  generalize numS d 0 d.length = v3 at *
  clear hyes HV1 HV2 hw1 hw2 hd1 hd2 hd3 hd4 hd5 hDD hbl hcl hgA x0
  have HVV := hid (fun wx => specvalidBond_any ⟨S, E, v3, 100 * v1 + v2⟩ wx)
  have HFB := hid (fun wx (h : bondB ⟨S, E, v3, 100 * v1 + v2⟩ = true) => specformatBond_any ⟨S, E, v3, 100 * v1 + v2⟩ wx h)
  simp only at HVV HFB
  have hB1 : pbOk l = true → bondB ⟨S, E, v3, 100 * v1 + v2⟩ = true ∧ bondT ⟨S, E, v3, 100 * v1 + v2⟩ = l ∧ pbV l = ⟨S, E, v3, 100 * v1 + v2⟩ := fun h => by
    rw [hcur h]; exact ⟨(pb_is h).1, (pb_is h).2, by unfold pbV; rw [if_pos h]⟩
  have hB2 : pbOk l = false → bondB ⟨S, E, v3, 100 * v1 + v2⟩ = true → bondT ⟨S, E, v3, 100 * v1 + v2⟩ ≠ l := fun h h2 => pb_no h h2
  have HC := hid (And.intro hno (And.intro hB1 hB2))
  clear hno hB1 hB2 hcur
  have HC03 := hid (And.intro c0 c3)
  clear c0 c3
  apply cut_at_end (facts := fun WF Nb => w.grownBy WF none ∧ WF.heap[w.heap.size]? = some (Obj.cells #[.int .i64 0, .int .i64 0, .int .i64 0, .int .i64 0] 37 (0, 0)) ∧ WF.heap[Nb]? = some (Obj.cells #[.int .i64 S, .int .i64 E, .int .i64 v3, .int .i64 (100 * v1 + v2)] 37 (0, 0)) ∧ ¬ w.heap.size = Nb)
  case main =>
    intro HT
    have c0 := HC03.out.1
    have c3 := HC03.out.2
    have u1 : IntKind.i64.wrap ((N : Int) - 3) = (N : Int) - 3 := IntWalk.i64_in _ (by omega)
    have u2 : IntKind.i64.wrap ((N : Int) - 2) = (N : Int) - 2 := IntWalk.i64_in _ (by omega)
    have u3 : IntKind.i64.wrap (100 * v1) = 100 * v1 := IntWalk.i64_in _ (by omega)
    have u4 : IntKind.i64.wrap (100 * v1 + v2) = 100 * v1 + v2 := IntWalk.i64_in _ (by omega)
    have q0 := blk_cell HD3.out 0 _ rfl
    have q1 := blk_cell HD3.out 1 _ rfl
    have q2 := blk_cell HD3.out 2 _ rfl
    have r0 := blk_cell HF3.out 0 _ rfl
    have r1 := blk_cell HF3.out 1 _ rfl
    have r2 := blk_cell HF3.out 2 _ rfl
    have Q := hid (And.intro q0 (And.intro q1 (And.intro q2 (And.intro r0 (And.intro r1 (And.intro r2 (And.intro c0 c3)))))))
    clear q0 q1 q2 r0 r1 r2 c0 c3
    refine wp_region_held_drew (S := fun w' => V3.grownBy w' none) (by kernel_rfl) (gr_drew (gr0 _)) (fun hHeld => ?_)
    refine wpAnyH_take (i := 0) (v := ?_) rfl (by kernel_rfl) (by kernel_rfl) (by kernel_rfl) (fun _ _ _ h => h) (Or.inl ⟨by rfl, ?_⟩) hHeld ?_
    rotate_left
    · intro w9 hSw
      (obtain ⟨q0, q1, q2, r0, r1, r2, c0, c3⟩ := Q.out; have q0 := hSw.cell q0 (by simp); have q1 := hSw.cell q1 (by simp); have q2 := hSw.cell q2 (by simp); have r0 := hSw.cell r0 (by simp); have r1 := hSw.cell r1 (by simp); have r2 := hSw.cell r2 (by simp); have c0 := hSw.cell c0 (by simp); have c3 := hSw.cell c3 (by simp); clear hSw)
      go_simp
      all_goals (try with_reducible rfl)
    (try simp only [Act.put, gA, gC, gD, gE, gF])
    refine wpAnyH_take (i := 2) (v := ?_) rfl (by kernel_rfl) (by kernel_rfl) (by kernel_rfl) (fun _ _ _ h => h) (Or.inl ⟨by rfl, ?_⟩) hHeld ?_
    rotate_left
    · intro w9 hSw
      (obtain ⟨q0, q1, q2, r0, r1, r2, c0, c3⟩ := Q.out; have q0 := hSw.cell q0 (by simp); have q1 := hSw.cell q1 (by simp); have q2 := hSw.cell q2 (by simp); have r0 := hSw.cell r0 (by simp); have r1 := hSw.cell r1 (by simp); have r2 := hSw.cell r2 (by simp); have c0 := hSw.cell c0 (by simp); have c3 := hSw.cell c3 (by simp); clear hSw)
      go_simp
      all_goals (try with_reducible rfl)
    (try simp only [Act.put, gA, gB, gC, gD, gE, gF])
    refine wpAnyH_take (i := 4) (v := ?_) rfl (by kernel_rfl) (by kernel_rfl) (by kernel_rfl) (fun _ _ _ h => h) (Or.inl ⟨by rfl, ?_⟩) hHeld ?_
    rotate_left
    · intro w9 hSw
      (obtain ⟨q0, q1, q2, r0, r1, r2, c0, c3⟩ := Q.out; have q0 := hSw.cell q0 (by simp); have q1 := hSw.cell q1 (by simp); have q2 := hSw.cell q2 (by simp); have r0 := hSw.cell r0 (by simp); have r1 := hSw.cell r1 (by simp); have r2 := hSw.cell r2 (by simp); have c0 := hSw.cell c0 (by simp); have c3 := hSw.cell c3 (by simp); clear hSw)
      go_simp
      all_goals (try with_reducible rfl)
    (try simp only [Act.put, gA, gB, gC, gD, gE, gF])
    refine wpAnyH_take (i := 5) (v := ?_) rfl (by kernel_rfl) (by kernel_rfl) (by kernel_rfl) (fun _ _ _ h => h) (Or.inl ⟨by rfl, ?_⟩) hHeld ?_
    rotate_left
    · intro w9 hSw
      (obtain ⟨q0, q1, q2, r0, r1, r2, c0, c3⟩ := Q.out; have q0 := hSw.cell q0 (by simp); have q1 := hSw.cell q1 (by simp); have q2 := hSw.cell q2 (by simp); have r0 := hSw.cell r0 (by simp); have r1 := hSw.cell r1 (by simp); have r2 := hSw.cell r2 (by simp); have c0 := hSw.cell c0 (by simp); have c3 := hSw.cell c3 (by simp); clear hSw)
      go_simp
      all_goals (try with_reducible rfl)
    (try simp only [Act.put, gA, gB, gC, gD, gE, gF])
    refine wpAnyH_take (i := 6) (v := ?_) rfl (by kernel_rfl) (by kernel_rfl) (by kernel_rfl) (fun _ _ _ h => h) (Or.inl ⟨by rfl, ?_⟩) hHeld ?_
    rotate_left
    · intro w9 hSw
      (obtain ⟨q0, q1, q2, r0, r1, r2, c0, c3⟩ := Q.out; have q0 := hSw.cell q0 (by simp); have q1 := hSw.cell q1 (by simp); have q2 := hSw.cell q2 (by simp); have r0 := hSw.cell r0 (by simp); have r1 := hSw.cell r1 (by simp); have r2 := hSw.cell r2 (by simp); have c0 := hSw.cell c0 (by simp); have c3 := hSw.cell c3 (by simp); clear hSw)
      go_simp
      all_goals (try with_reducible rfl)
    (try simp only [Act.put, gA, gB, gC, gD, gE, gF])
    refine wpAnyH_take (i := 7) (v := ?_) rfl (by kernel_rfl) (by kernel_rfl) (by kernel_rfl) (fun _ _ _ h => h) (Or.inl ⟨by rfl, ?_⟩) hHeld ?_
    rotate_left
    · intro w9 hSw
      (obtain ⟨q0, q1, q2, r0, r1, r2, c0, c3⟩ := Q.out; have q0 := hSw.cell q0 (by simp); have q1 := hSw.cell q1 (by simp); have q2 := hSw.cell q2 (by simp); have r0 := hSw.cell r0 (by simp); have r1 := hSw.cell r1 (by simp); have r2 := hSw.cell r2 (by simp); have c0 := hSw.cell c0 (by simp); have c3 := hSw.cell c3 (by simp); clear hSw)
      go_simp
      all_goals (try with_reducible rfl)
    (try simp only [Act.put, gA, gB, gC, gD, gE, gF])
    refine wpAnyH_take (i := 8) (v := ?_) rfl (by kernel_rfl) (by kernel_rfl) (by kernel_rfl) (fun _ _ _ h => h) (Or.inl ⟨by rfl, ?_⟩) hHeld ?_
    rotate_left
    · intro w9 hSw
      (obtain ⟨q0, q1, q2, r0, r1, r2, c0, c3⟩ := Q.out; have q0 := hSw.cell q0 (by simp); have q1 := hSw.cell q1 (by simp); have q2 := hSw.cell q2 (by simp); have r0 := hSw.cell r0 (by simp); have r1 := hSw.cell r1 (by simp); have r2 := hSw.cell r2 (by simp); have c0 := hSw.cell c0 (by simp); have c3 := hSw.cell c3 (by simp); clear hSw)
      go_simp
      all_goals (try with_reducible rfl)
    (try simp only [Act.put, gA, gB, gC, gD, gE, gF])
    refine wpAnyH_take (i := 9) (v := ?_) rfl (by kernel_rfl) (by kernel_rfl) (by kernel_rfl) (fun _ _ _ h => h) (Or.inl ⟨by rfl, ?_⟩) hHeld ?_
    rotate_left
    · intro w9 hSw
      (obtain ⟨q0, q1, q2, r0, r1, r2, c0, c3⟩ := Q.out; have q0 := hSw.cell q0 (by simp); have q1 := hSw.cell q1 (by simp); have q2 := hSw.cell q2 (by simp); have r0 := hSw.cell r0 (by simp); have r1 := hSw.cell r1 (by simp); have r2 := hSw.cell r2 (by simp); have c0 := hSw.cell c0 (by simp); have c3 := hSw.cell c3 (by simp); clear hSw)
      go_simp
      all_goals (try with_reducible rfl)
    (try simp only [Act.put, gA, gB, gC, gD, gE, gF])
    refine wpAnyH_take (i := 10) (v := ?_) rfl (by kernel_rfl) (by kernel_rfl) (by kernel_rfl) (fun _ _ _ h => h) (Or.inl ⟨by rfl, ?_⟩) hHeld ?_
    rotate_left
    · intro w9 hSw
      (obtain ⟨q0, q1, q2, r0, r1, r2, c0, c3⟩ := Q.out; have q0 := hSw.cell q0 (by simp); have q1 := hSw.cell q1 (by simp); have q2 := hSw.cell q2 (by simp); have r0 := hSw.cell r0 (by simp); have r1 := hSw.cell r1 (by simp); have r2 := hSw.cell r2 (by simp); have c0 := hSw.cell c0 (by simp); have c3 := hSw.cell c3 (by simp); clear hSw)
      go_simp
      all_goals (try with_reducible rfl)
    (try simp only [Act.put, gA, gB, gC, gD, gE, gF])
    refine wpAnyH_take (i := 12) (v := ?_) rfl (by kernel_rfl) (by kernel_rfl) (by kernel_rfl) (fun _ _ _ h => h) (Or.inl ⟨by rfl, ?_⟩) hHeld ?_
    rotate_left
    · intro w9 hSw
      (obtain ⟨q0, q1, q2, r0, r1, r2, c0, c3⟩ := Q.out; have q0 := hSw.cell q0 (by simp); have q1 := hSw.cell q1 (by simp); have q2 := hSw.cell q2 (by simp); have r0 := hSw.cell r0 (by simp); have r1 := hSw.cell r1 (by simp); have r2 := hSw.cell r2 (by simp); have c0 := hSw.cell c0 (by simp); have c3 := hSw.cell c3 (by simp); clear hSw)
      go_simp
      all_goals (try with_reducible rfl)
    (try simp only [Act.put, gA, gB, gC, gD, gE, gF])
    refine wpAnyH_take (i := 13) (v := ?_) rfl (by kernel_rfl) (by kernel_rfl) (by kernel_rfl) (fun _ _ _ h => h) (Or.inl ⟨by rfl, ?_⟩) hHeld ?_
    rotate_left
    · intro w9 hSw
      (obtain ⟨q0, q1, q2, r0, r1, r2, c0, c3⟩ := Q.out; have q0 := hSw.cell q0 (by simp); have q1 := hSw.cell q1 (by simp); have q2 := hSw.cell q2 (by simp); have r0 := hSw.cell r0 (by simp); have r1 := hSw.cell r1 (by simp); have r2 := hSw.cell r2 (by simp); have c0 := hSw.cell c0 (by simp); have c3 := hSw.cell c3 (by simp); clear hSw)
      go_simp
      all_goals (try with_reducible rfl)
    (try simp only [Act.put, gA, gB, gC, gD, gE, gF])
    refine wpAnyH_take (i := 14) (v := ?_) rfl (by kernel_rfl) (by kernel_rfl) (by kernel_rfl) (fun _ _ _ h => h) (Or.inl ⟨by rfl, ?_⟩) hHeld ?_
    rotate_left
    · intro w9 hSw
      (obtain ⟨q0, q1, q2, r0, r1, r2, c0, c3⟩ := Q.out; have q0 := hSw.cell q0 (by simp); have q1 := hSw.cell q1 (by simp); have q2 := hSw.cell q2 (by simp); have r0 := hSw.cell r0 (by simp); have r1 := hSw.cell r1 (by simp); have r2 := hSw.cell r2 (by simp); have c0 := hSw.cell c0 (by simp); have c3 := hSw.cell c3 (by simp); clear hSw)
      go_simp
      all_goals (try with_reducible rfl)
    (try simp only [Act.put, gA, gB, gC, gD, gE, gF])
    refine wpAnyH_take (i := 15) (v := ?_) rfl (by kernel_rfl) (by kernel_rfl) (by kernel_rfl) (fun _ _ _ h => h) (Or.inl ⟨by rfl, ?_⟩) hHeld ?_
    rotate_left
    · intro w9 hSw
      (obtain ⟨q0, q1, q2, r0, r1, r2, c0, c3⟩ := Q.out; have q0 := hSw.cell q0 (by simp); have q1 := hSw.cell q1 (by simp); have q2 := hSw.cell q2 (by simp); have r0 := hSw.cell r0 (by simp); have r1 := hSw.cell r1 (by simp); have r2 := hSw.cell r2 (by simp); have c0 := hSw.cell c0 (by simp); have c3 := hSw.cell c3 (by simp); clear hSw)
      go_simp
      all_goals (try with_reducible rfl)
    (try simp only [Act.put, gA, gB, gC, gD, gE, gF])
    refine wpAnyH_take (i := 16) (v := ?_) rfl (by kernel_rfl) (by kernel_rfl) (by kernel_rfl) (fun _ _ _ h => h) (Or.inl ⟨by rfl, ?_⟩) hHeld ?_
    rotate_left
    · intro w9 hSw
      clear hSw
      go_simp
      all_goals (try with_reducible rfl)
    (try simp only [Act.put, gA, gB, gC, gD, gE, gF])
    (try simp only [u1])
    refine wpAnyH_take (i := 19) (v := ?_) rfl (by kernel_rfl) (by kernel_rfl) (by kernel_rfl) (fun _ _ _ h => h) (Or.inl ⟨by rfl, ?_⟩) hHeld ?_
    rotate_left
    · intro w9 hSw
      (obtain ⟨q0, q1, q2, r0, r1, r2, c0, c3⟩ := Q.out; have q0 := hSw.cell q0 (by simp); have q1 := hSw.cell q1 (by simp); have q2 := hSw.cell q2 (by simp); have r0 := hSw.cell r0 (by simp); have r1 := hSw.cell r1 (by simp); have r2 := hSw.cell r2 (by simp); have c0 := hSw.cell c0 (by simp); have c3 := hSw.cell c3 (by simp); clear hSw)
      go_simp
      all_goals (try with_reducible rfl)
    (try simp only [Act.put, gA, gB, gC, gD, gE, gF])
    refine wpAnyH_take (i := 20) (v := ?_) rfl (by kernel_rfl) (by kernel_rfl) (by kernel_rfl) (fun _ _ _ h => h) (Or.inl ⟨by rfl, ?_⟩) hHeld ?_
    rotate_left
    · intro w9 hSw
      (obtain ⟨q0, q1, q2, r0, r1, r2, c0, c3⟩ := Q.out; have q0 := hSw.cell q0 (by simp); have q1 := hSw.cell q1 (by simp); have q2 := hSw.cell q2 (by simp); have r0 := hSw.cell r0 (by simp); have r1 := hSw.cell r1 (by simp); have r2 := hSw.cell r2 (by simp); have c0 := hSw.cell c0 (by simp); have c3 := hSw.cell c3 (by simp); clear hSw)
      go_simp
      all_goals (try with_reducible rfl)
    (try simp only [Act.put, gA, gB, gC, gD, gE, gF])
    refine wpAnyH_take (i := 21) (v := ?_) rfl (by kernel_rfl) (by kernel_rfl) (by kernel_rfl) (fun _ _ _ h => h) (Or.inl ⟨by rfl, ?_⟩) hHeld ?_
    rotate_left
    · intro w9 hSw
      (obtain ⟨q0, q1, q2, r0, r1, r2, c0, c3⟩ := Q.out; have q0 := hSw.cell q0 (by simp); have q1 := hSw.cell q1 (by simp); have q2 := hSw.cell q2 (by simp); have r0 := hSw.cell r0 (by simp); have r1 := hSw.cell r1 (by simp); have r2 := hSw.cell r2 (by simp); have c0 := hSw.cell c0 (by simp); have c3 := hSw.cell c3 (by simp); clear hSw)
      go_simp
      all_goals (try with_reducible rfl)
    (try simp only [Act.put, gA, gB, gC, gD, gE, gF])
    refine wpAnyH_take (i := 22) (v := ?_) rfl (by kernel_rfl) (by kernel_rfl) (by kernel_rfl) (fun _ _ _ h => h) (Or.inl ⟨by rfl, ?_⟩) hHeld ?_
    rotate_left
    · intro w9 hSw
      (obtain ⟨q0, q1, q2, r0, r1, r2, c0, c3⟩ := Q.out; have q0 := hSw.cell q0 (by simp); have q1 := hSw.cell q1 (by simp); have q2 := hSw.cell q2 (by simp); have r0 := hSw.cell r0 (by simp); have r1 := hSw.cell r1 (by simp); have r2 := hSw.cell r2 (by simp); have c0 := hSw.cell c0 (by simp); have c3 := hSw.cell c3 (by simp); clear hSw)
      go_simp
      all_goals (try with_reducible rfl)
    (try simp only [Act.put, gA, gB, gC, gD, gE, gF])
    refine wpAnyH_take (i := 23) (v := ?_) rfl (by kernel_rfl) (by kernel_rfl) (by kernel_rfl) (fun _ _ _ h => h) (Or.inl ⟨by rfl, ?_⟩) hHeld ?_
    rotate_left
    · intro w9 hSw
      clear hSw
      go_simp
      all_goals (try with_reducible rfl)
    (try simp only [Act.put, gA, gB, gC, gD, gE, gF])
    refine wpAnyH_take (i := 24) (v := ?_) rfl (by kernel_rfl) (by kernel_rfl) (by kernel_rfl) (fun _ _ _ h => h) (Or.inl ⟨by rfl, ?_⟩) hHeld ?_
    rotate_left
    · intro w9 hSw
      clear hSw
      go_simp
      all_goals (try with_reducible rfl)
    (try simp only [Act.put, gA, gB, gC, gD, gE, gF])
    (try simp only [u2])
    clear u1 u2 Q
    refine wpAnyH_ready (rs := [1, 28]) (by kernel_rfl) (by simp) ?_
    refine AllReadyH.cons rfl (fun K' hK' => ?_) (AllReadyH.cons rfl (fun K' hK' => ?_) AllReadyH.nil)
    · go_simp
      refine (K1.out _).mono ?_
      rintro e' w5 ⟨rfl, hg⟩
      (try simp only [])
      refine hK'.out _ _ (gr_trans0 hHeld hg) (fun hHeldN => ?_)
      clear hg
      clear hHeld
      have hHeld := hHeldN
      clear hK' K' hHeldN
      (try simp only [Act.put, gA, gB, gC, gD, gE, gF])
      refine wpAnyH_ready (rs := [3, 28]) (by kernel_rfl) (by simp) ?_
      refine AllReadyH.cons rfl (fun K' hK' => ?_) (AllReadyH.cons rfl (fun K' hK' => ?_) AllReadyH.nil)
      · go_simp
        refine (K2.out _).mono ?_
        rintro e' w6 ⟨rfl, hg⟩
        (try simp only [])
        refine hK'.out _ _ (gr_trans0 hHeld hg) (fun hHeldN => ?_)
        clear hg
        clear hHeld
        have hHeld := hHeldN
        clear hK' K' hHeldN
        (try simp only [Act.put, gA, gB, gC, gD, gE, gF])
        refine wpAnyH_ready (rs := [11, 28]) (by kernel_rfl) (by simp) ?_
        refine AllReadyH.cons rfl (fun K' hK' => ?_) (AllReadyH.cons rfl (fun K' hK' => ?_) AllReadyH.nil)
        · go_simp
          refine (N3.out _).mono ?_
          rintro e' wq ⟨rfl, rfl⟩
          (try simp only [])
          refine hK'.out _ _ hHeld (fun hHeldN => ?_)
          clear hHeld
          have hHeld := hHeldN
          clear hK' K' hHeldN
          (try simp only [Act.put, gA, gB, gC, gD, gE, gF])
          refine wpAnyH_ready (rs := [17, 28]) (by kernel_rfl) (by simp) ?_
          refine AllReadyH.cons rfl (fun K' hK' => ?_) (AllReadyH.cons rfl (fun K' hK' => ?_) AllReadyH.nil)
          · go_simp
            refine (N1.out _).mono ?_
            rintro e' wq ⟨rfl, rfl⟩
            (try simp only [])
            refine hK'.out _ _ hHeld (fun hHeldN => ?_)
            clear hHeld
            have hHeld := hHeldN
            clear hK' K' hHeldN
            (try simp only [Act.put, gA, gB, gC, gD, gE, gF])
            refine wpAnyH_take (i := 18) (v := ?_) rfl (by kernel_rfl) (by kernel_rfl) (by kernel_rfl) (fun _ _ _ h => h) (Or.inl ⟨by rfl, ?_⟩) hHeld ?_
            rotate_left
            · intro w9 hSw
              clear hSw
              go_simp
              all_goals (try with_reducible rfl)
            (try simp only [Act.put, gA, gB, gC, gD, gE, gF])
            (try simp only [u3])
            refine wpAnyH_ready (rs := [25, 28]) (by kernel_rfl) (by simp) ?_
            refine AllReadyH.cons rfl (fun K' hK' => ?_) (AllReadyH.cons rfl (fun K' hK' => ?_) AllReadyH.nil)
            · go_simp
              refine (N2.out _).mono ?_
              rintro e' wq ⟨rfl, rfl⟩
              (try simp only [])
              refine hK'.out _ _ hHeld (fun hHeldN => ?_)
              clear hHeld
              have hHeld := hHeldN
              clear hK' K' hHeldN
              (try simp only [Act.put, gA, gB, gC, gD, gE, gF])
              refine wpAnyH_take (i := 26) (v := ?_) rfl (by kernel_rfl) (by kernel_rfl) (by kernel_rfl) (fun _ _ _ h => h) (Or.inl ⟨by rfl, ?_⟩) hHeld ?_
              rotate_left
              · intro w9 hSw
                clear hSw
                go_simp
                all_goals (try with_reducible rfl)
              (try simp only [Act.put, gA, gB, gC, gD, gE, gF])
              (try simp only [u4])
              refine wpAnyH_take (i := 27) (v := ?_) rfl (by kernel_rfl) (by kernel_rfl) (by kernel_rfl) (fun _ _ _ h => h) (Or.inl ⟨by rfl, ?_⟩) hHeld ?_
              rotate_left
              · intro w9 hSw
                clear hSw
                go_simp
                all_goals (try with_reducible rfl)
              (try simp only [Act.put, gA, gB, gC, gD, gE, gF])
              refine wpAnyH_ready (rs := [28]) (by kernel_rfl) (by simp) ?_
              refine AllReadyH.cons rfl (fun K' hK' => ?_) AllReadyH.nil
              go_simp
              have hHeldC := hHeld
              refine hK'.out _ _ (gr_alloc hHeld _) (fun hHeldN => ?_)
              have HB := hid (show (w6.alloc (Obj.cells #[.int .i64 0, .int .i64 0, .int .i64 0, .int .i64 0] 37)).heap[w6.heap.size]? = some (Obj.cells #[.int .i64 0, .int .i64 0, .int .i64 0, .int .i64 0] 37) from heap_alloc_new w6 _)
              obtain ⟨Nb, hNb⟩ : ∃ Nb, Nb = w6.heap.size := ⟨_, rfl⟩
              have hNge : V3.heap.size ≤ Nb := by
                have h9 := gr_le hHeldC
                rw [hNb]
                exact h9
              rw [← hNb] at HB ⊢
              clear hHeldC
              clear hNb
              clear hHeld
              have hHeld := hHeldN
              clear hK' K' hHeldN
              (try simp only [Act.put, gA, gB, gC, gD, gE, gF])
              refine wpAnyH_ready (rs := [29]) (by kernel_rfl) (by simp) ?_
              refine AllReadyH.cons rfl (fun K' hK' => ?_) AllReadyH.nil
              have y0 := blk_cell HB.out 0 _ rfl
              have y1 := blk_cell HB.out 1 _ rfl
              have y2 := blk_cell HB.out 2 _ rfl
              have y3 := blk_cell HB.out 3 _ rfl
              have k0 := blk_frozen HB.out 0
              have k1 := blk_frozen HB.out 1
              have k2 := blk_frozen HB.out 2
              have k3 := blk_frozen HB.out 3
              go_simp
              have HbF := hid ((blk_set (blk_set (blk_set (blk_set HB.out 0 (.int .i64 S)) 1 (.int .i64 E)) 2 (.int .i64 v3)) 3 (.int .i64 (100 * v1 + v2))).trans (show _ = some (Obj.cells #[.int .i64 S, .int .i64 E, .int .i64 v3, .int .i64 (100 * v1 + v2)] 37 (0, 0)) from rfl))
              refine hK'.out _ _ (gr_setCell (gr_setCell (gr_setCell (gr_setCell hHeld (.inr hNge) _) (.inr hNge) _) (.inr hNge) _) (.inr hNge) _) (fun hHeldN => ?_)
              clear y0 y1 y2 y3 k0 k1 k2 k3 HB
              clear hHeld
              have hHeld := hHeldN
              clear hK' K' hHeldN
              (try simp only [Act.put, gA, gB, gC, gD, gE, gF])
              refine wpAnyH_done (by kernel_rfl) ?_ _
              have HgF := gr_trans0 Hg3.out hHeld
              have HzF := blk_keep Hz3.out hHeld (by simp)
              have HbF := HbF.out
              have n1 : ¬ w.heap.size = Nb := by have := blk_lt Hz3.out; omega
              clear hHeld u3 u4 hNge
              generalize (World.setCell _ ⟨Nb, 3, none⟩ _) = WF at *
              exact HT WF Nb ⟨HgF, HzF, HbF, n1⟩
            · go_simp
              have hHeldC := hHeld
              refine hK'.out _ _ (gr_alloc hHeld _) (fun hHeldN => ?_)
              have HB := hid (show (w6.alloc (Obj.cells #[.int .i64 0, .int .i64 0, .int .i64 0, .int .i64 0] 37)).heap[w6.heap.size]? = some (Obj.cells #[.int .i64 0, .int .i64 0, .int .i64 0, .int .i64 0] 37) from heap_alloc_new w6 _)
              obtain ⟨Nb, hNb⟩ : ∃ Nb, Nb = w6.heap.size := ⟨_, rfl⟩
              have hNge : V3.heap.size ≤ Nb := by
                have h9 := gr_le hHeldC
                rw [hNb]
                exact h9
              rw [← hNb] at HB ⊢
              clear hHeldC
              clear hNb
              clear hHeld
              have hHeld := hHeldN
              clear hK' K' hHeldN
              (try simp only [Act.put, gA, gB, gC, gD, gE, gF])
              refine wpAnyH_ready (rs := [25]) (by kernel_rfl) (by simp) ?_
              refine AllReadyH.cons rfl (fun K' hK' => ?_) AllReadyH.nil
              go_simp
              refine (N2.out _).mono ?_
              rintro e' wq ⟨rfl, rfl⟩
              (try simp only [])
              refine hK'.out _ _ hHeld (fun hHeldN => ?_)
              clear hHeld
              have hHeld := hHeldN
              clear hK' K' hHeldN
              (try simp only [Act.put, gA, gB, gC, gD, gE, gF])
              refine wpAnyH_take (i := 26) (v := ?_) rfl (by kernel_rfl) (by kernel_rfl) (by kernel_rfl) (fun _ _ _ h => h) (Or.inl ⟨by rfl, ?_⟩) hHeld ?_
              rotate_left
              · intro w9 hSw
                clear hSw
                go_simp
                all_goals (try with_reducible rfl)
              (try simp only [Act.put, gA, gB, gC, gD, gE, gF])
              (try simp only [u4])
              refine wpAnyH_take (i := 27) (v := ?_) rfl (by kernel_rfl) (by kernel_rfl) (by kernel_rfl) (fun _ _ _ h => h) (Or.inl ⟨by rfl, ?_⟩) hHeld ?_
              rotate_left
              · intro w9 hSw
                clear hSw
                go_simp
                all_goals (try with_reducible rfl)
              (try simp only [Act.put, gA, gB, gC, gD, gE, gF])
              refine wpAnyH_ready (rs := [29]) (by kernel_rfl) (by simp) ?_
              refine AllReadyH.cons rfl (fun K' hK' => ?_) AllReadyH.nil
              have y0 := blk_cell HB.out 0 _ rfl
              have y1 := blk_cell HB.out 1 _ rfl
              have y2 := blk_cell HB.out 2 _ rfl
              have y3 := blk_cell HB.out 3 _ rfl
              have k0 := blk_frozen HB.out 0
              have k1 := blk_frozen HB.out 1
              have k2 := blk_frozen HB.out 2
              have k3 := blk_frozen HB.out 3
              go_simp
              have HbF := hid ((blk_set (blk_set (blk_set (blk_set HB.out 0 (.int .i64 S)) 1 (.int .i64 E)) 2 (.int .i64 v3)) 3 (.int .i64 (100 * v1 + v2))).trans (show _ = some (Obj.cells #[.int .i64 S, .int .i64 E, .int .i64 v3, .int .i64 (100 * v1 + v2)] 37 (0, 0)) from rfl))
              refine hK'.out _ _ (gr_setCell (gr_setCell (gr_setCell (gr_setCell hHeld (.inr hNge) _) (.inr hNge) _) (.inr hNge) _) (.inr hNge) _) (fun hHeldN => ?_)
              clear y0 y1 y2 y3 k0 k1 k2 k3 HB
              clear hHeld
              have hHeld := hHeldN
              clear hK' K' hHeldN
              (try simp only [Act.put, gA, gB, gC, gD, gE, gF])
              refine wpAnyH_done (by kernel_rfl) ?_ _
              have HgF := gr_trans0 Hg3.out hHeld
              have HzF := blk_keep Hz3.out hHeld (by simp)
              have HbF := HbF.out
              have n1 : ¬ w.heap.size = Nb := by have := blk_lt Hz3.out; omega
              clear hHeld u3 u4 hNge
              generalize (World.setCell _ ⟨Nb, 3, none⟩ _) = WF at *
              exact HT WF Nb ⟨HgF, HzF, HbF, n1⟩
          · go_simp
            have hHeldC := hHeld
            refine hK'.out _ _ (gr_alloc hHeld _) (fun hHeldN => ?_)
            have HB := hid (show (w6.alloc (Obj.cells #[.int .i64 0, .int .i64 0, .int .i64 0, .int .i64 0] 37)).heap[w6.heap.size]? = some (Obj.cells #[.int .i64 0, .int .i64 0, .int .i64 0, .int .i64 0] 37) from heap_alloc_new w6 _)
            obtain ⟨Nb, hNb⟩ : ∃ Nb, Nb = w6.heap.size := ⟨_, rfl⟩
            have hNge : V3.heap.size ≤ Nb := by
              have h9 := gr_le hHeldC
              rw [hNb]
              exact h9
            rw [← hNb] at HB ⊢
            clear hHeldC
            clear hNb
            clear hHeld
            have hHeld := hHeldN
            clear hK' K' hHeldN
            (try simp only [Act.put, gA, gB, gC, gD, gE, gF])
            refine wpAnyH_ready (rs := [17]) (by kernel_rfl) (by simp) ?_
            refine AllReadyH.cons rfl (fun K' hK' => ?_) AllReadyH.nil
            go_simp
            refine (N1.out _).mono ?_
            rintro e' wq ⟨rfl, rfl⟩
            (try simp only [])
            refine hK'.out _ _ hHeld (fun hHeldN => ?_)
            clear hHeld
            have hHeld := hHeldN
            clear hK' K' hHeldN
            (try simp only [Act.put, gA, gB, gC, gD, gE, gF])
            refine wpAnyH_take (i := 18) (v := ?_) rfl (by kernel_rfl) (by kernel_rfl) (by kernel_rfl) (fun _ _ _ h => h) (Or.inl ⟨by rfl, ?_⟩) hHeld ?_
            rotate_left
            · intro w9 hSw
              clear hSw
              go_simp
              all_goals (try with_reducible rfl)
            (try simp only [Act.put, gA, gB, gC, gD, gE, gF])
            (try simp only [u3])
            refine wpAnyH_ready (rs := [25]) (by kernel_rfl) (by simp) ?_
            refine AllReadyH.cons rfl (fun K' hK' => ?_) AllReadyH.nil
            go_simp
            refine (N2.out _).mono ?_
            rintro e' wq ⟨rfl, rfl⟩
            (try simp only [])
            refine hK'.out _ _ hHeld (fun hHeldN => ?_)
            clear hHeld
            have hHeld := hHeldN
            clear hK' K' hHeldN
            (try simp only [Act.put, gA, gB, gC, gD, gE, gF])
            refine wpAnyH_take (i := 26) (v := ?_) rfl (by kernel_rfl) (by kernel_rfl) (by kernel_rfl) (fun _ _ _ h => h) (Or.inl ⟨by rfl, ?_⟩) hHeld ?_
            rotate_left
            · intro w9 hSw
              clear hSw
              go_simp
              all_goals (try with_reducible rfl)
            (try simp only [Act.put, gA, gB, gC, gD, gE, gF])
            (try simp only [u4])
            refine wpAnyH_take (i := 27) (v := ?_) rfl (by kernel_rfl) (by kernel_rfl) (by kernel_rfl) (fun _ _ _ h => h) (Or.inl ⟨by rfl, ?_⟩) hHeld ?_
            rotate_left
            · intro w9 hSw
              clear hSw
              go_simp
              all_goals (try with_reducible rfl)
            (try simp only [Act.put, gA, gB, gC, gD, gE, gF])
            refine wpAnyH_ready (rs := [29]) (by kernel_rfl) (by simp) ?_
            refine AllReadyH.cons rfl (fun K' hK' => ?_) AllReadyH.nil
            have y0 := blk_cell HB.out 0 _ rfl
            have y1 := blk_cell HB.out 1 _ rfl
            have y2 := blk_cell HB.out 2 _ rfl
            have y3 := blk_cell HB.out 3 _ rfl
            have k0 := blk_frozen HB.out 0
            have k1 := blk_frozen HB.out 1
            have k2 := blk_frozen HB.out 2
            have k3 := blk_frozen HB.out 3
            go_simp
            have HbF := hid ((blk_set (blk_set (blk_set (blk_set HB.out 0 (.int .i64 S)) 1 (.int .i64 E)) 2 (.int .i64 v3)) 3 (.int .i64 (100 * v1 + v2))).trans (show _ = some (Obj.cells #[.int .i64 S, .int .i64 E, .int .i64 v3, .int .i64 (100 * v1 + v2)] 37 (0, 0)) from rfl))
            refine hK'.out _ _ (gr_setCell (gr_setCell (gr_setCell (gr_setCell hHeld (.inr hNge) _) (.inr hNge) _) (.inr hNge) _) (.inr hNge) _) (fun hHeldN => ?_)
            clear y0 y1 y2 y3 k0 k1 k2 k3 HB
            clear hHeld
            have hHeld := hHeldN
            clear hK' K' hHeldN
            (try simp only [Act.put, gA, gB, gC, gD, gE, gF])
            refine wpAnyH_done (by kernel_rfl) ?_ _
            have HgF := gr_trans0 Hg3.out hHeld
            have HzF := blk_keep Hz3.out hHeld (by simp)
            have HbF := HbF.out
            have n1 : ¬ w.heap.size = Nb := by have := blk_lt Hz3.out; omega
            clear hHeld u3 u4 hNge
            generalize (World.setCell _ ⟨Nb, 3, none⟩ _) = WF at *
            exact HT WF Nb ⟨HgF, HzF, HbF, n1⟩
        · go_simp
          have hHeldC := hHeld
          refine hK'.out _ _ (gr_alloc hHeld _) (fun hHeldN => ?_)
          have HB := hid (show (w6.alloc (Obj.cells #[.int .i64 0, .int .i64 0, .int .i64 0, .int .i64 0] 37)).heap[w6.heap.size]? = some (Obj.cells #[.int .i64 0, .int .i64 0, .int .i64 0, .int .i64 0] 37) from heap_alloc_new w6 _)
          obtain ⟨Nb, hNb⟩ : ∃ Nb, Nb = w6.heap.size := ⟨_, rfl⟩
          have hNge : V3.heap.size ≤ Nb := by
            have h9 := gr_le hHeldC
            rw [hNb]
            exact h9
          rw [← hNb] at HB ⊢
          clear hHeldC
          clear hNb
          clear hHeld
          have hHeld := hHeldN
          clear hK' K' hHeldN
          (try simp only [Act.put, gA, gB, gC, gD, gE, gF])
          refine wpAnyH_ready (rs := [11]) (by kernel_rfl) (by simp) ?_
          refine AllReadyH.cons rfl (fun K' hK' => ?_) AllReadyH.nil
          go_simp
          refine (N3.out _).mono ?_
          rintro e' wq ⟨rfl, rfl⟩
          (try simp only [])
          refine hK'.out _ _ hHeld (fun hHeldN => ?_)
          clear hHeld
          have hHeld := hHeldN
          clear hK' K' hHeldN
          (try simp only [Act.put, gA, gB, gC, gD, gE, gF])
          refine wpAnyH_ready (rs := [17]) (by kernel_rfl) (by simp) ?_
          refine AllReadyH.cons rfl (fun K' hK' => ?_) AllReadyH.nil
          go_simp
          refine (N1.out _).mono ?_
          rintro e' wq ⟨rfl, rfl⟩
          (try simp only [])
          refine hK'.out _ _ hHeld (fun hHeldN => ?_)
          clear hHeld
          have hHeld := hHeldN
          clear hK' K' hHeldN
          (try simp only [Act.put, gA, gB, gC, gD, gE, gF])
          refine wpAnyH_take (i := 18) (v := ?_) rfl (by kernel_rfl) (by kernel_rfl) (by kernel_rfl) (fun _ _ _ h => h) (Or.inl ⟨by rfl, ?_⟩) hHeld ?_
          rotate_left
          · intro w9 hSw
            clear hSw
            go_simp
            all_goals (try with_reducible rfl)
          (try simp only [Act.put, gA, gB, gC, gD, gE, gF])
          (try simp only [u3])
          refine wpAnyH_ready (rs := [25]) (by kernel_rfl) (by simp) ?_
          refine AllReadyH.cons rfl (fun K' hK' => ?_) AllReadyH.nil
          go_simp
          refine (N2.out _).mono ?_
          rintro e' wq ⟨rfl, rfl⟩
          (try simp only [])
          refine hK'.out _ _ hHeld (fun hHeldN => ?_)
          clear hHeld
          have hHeld := hHeldN
          clear hK' K' hHeldN
          (try simp only [Act.put, gA, gB, gC, gD, gE, gF])
          refine wpAnyH_take (i := 26) (v := ?_) rfl (by kernel_rfl) (by kernel_rfl) (by kernel_rfl) (fun _ _ _ h => h) (Or.inl ⟨by rfl, ?_⟩) hHeld ?_
          rotate_left
          · intro w9 hSw
            clear hSw
            go_simp
            all_goals (try with_reducible rfl)
          (try simp only [Act.put, gA, gB, gC, gD, gE, gF])
          (try simp only [u4])
          refine wpAnyH_take (i := 27) (v := ?_) rfl (by kernel_rfl) (by kernel_rfl) (by kernel_rfl) (fun _ _ _ h => h) (Or.inl ⟨by rfl, ?_⟩) hHeld ?_
          rotate_left
          · intro w9 hSw
            clear hSw
            go_simp
            all_goals (try with_reducible rfl)
          (try simp only [Act.put, gA, gB, gC, gD, gE, gF])
          refine wpAnyH_ready (rs := [29]) (by kernel_rfl) (by simp) ?_
          refine AllReadyH.cons rfl (fun K' hK' => ?_) AllReadyH.nil
          have y0 := blk_cell HB.out 0 _ rfl
          have y1 := blk_cell HB.out 1 _ rfl
          have y2 := blk_cell HB.out 2 _ rfl
          have y3 := blk_cell HB.out 3 _ rfl
          have k0 := blk_frozen HB.out 0
          have k1 := blk_frozen HB.out 1
          have k2 := blk_frozen HB.out 2
          have k3 := blk_frozen HB.out 3
          go_simp
          have HbF := hid ((blk_set (blk_set (blk_set (blk_set HB.out 0 (.int .i64 S)) 1 (.int .i64 E)) 2 (.int .i64 v3)) 3 (.int .i64 (100 * v1 + v2))).trans (show _ = some (Obj.cells #[.int .i64 S, .int .i64 E, .int .i64 v3, .int .i64 (100 * v1 + v2)] 37 (0, 0)) from rfl))
          refine hK'.out _ _ (gr_setCell (gr_setCell (gr_setCell (gr_setCell hHeld (.inr hNge) _) (.inr hNge) _) (.inr hNge) _) (.inr hNge) _) (fun hHeldN => ?_)
          clear y0 y1 y2 y3 k0 k1 k2 k3 HB
          clear hHeld
          have hHeld := hHeldN
          clear hK' K' hHeldN
          (try simp only [Act.put, gA, gB, gC, gD, gE, gF])
          refine wpAnyH_done (by kernel_rfl) ?_ _
          have HgF := gr_trans0 Hg3.out hHeld
          have HzF := blk_keep Hz3.out hHeld (by simp)
          have HbF := HbF.out
          have n1 : ¬ w.heap.size = Nb := by have := blk_lt Hz3.out; omega
          clear hHeld u3 u4 hNge
          generalize (World.setCell _ ⟨Nb, 3, none⟩ _) = WF at *
          exact HT WF Nb ⟨HgF, HzF, HbF, n1⟩
      · go_simp
        have hHeldC := hHeld
        refine hK'.out _ _ (gr_alloc hHeld _) (fun hHeldN => ?_)
        have HB := hid (show (w5.alloc (Obj.cells #[.int .i64 0, .int .i64 0, .int .i64 0, .int .i64 0] 37)).heap[w5.heap.size]? = some (Obj.cells #[.int .i64 0, .int .i64 0, .int .i64 0, .int .i64 0] 37) from heap_alloc_new w5 _)
        obtain ⟨Nb, hNb⟩ : ∃ Nb, Nb = w5.heap.size := ⟨_, rfl⟩
        have hNge : V3.heap.size ≤ Nb := by
          have h9 := gr_le hHeldC
          rw [hNb]
          exact h9
        rw [← hNb] at HB ⊢
        clear hHeldC
        clear hNb
        clear hHeld
        have hHeld := hHeldN
        clear hK' K' hHeldN
        (try simp only [Act.put, gA, gB, gC, gD, gE, gF])
        refine wpAnyH_ready (rs := [3]) (by kernel_rfl) (by simp) ?_
        refine AllReadyH.cons rfl (fun K' hK' => ?_) AllReadyH.nil
        go_simp
        refine (K2.out _).mono ?_
        rintro e' w7 ⟨rfl, hg⟩
        (try simp only [])
        refine hK'.out _ _ (gr_trans0 hHeld hg) (fun hHeldN => ?_)
        have HB := hid (blk_keep HB.out hg (by simp))
        clear hg
        clear hHeld
        have hHeld := hHeldN
        clear hK' K' hHeldN
        (try simp only [Act.put, gA, gB, gC, gD, gE, gF])
        refine wpAnyH_ready (rs := [11]) (by kernel_rfl) (by simp) ?_
        refine AllReadyH.cons rfl (fun K' hK' => ?_) AllReadyH.nil
        go_simp
        refine (N3.out _).mono ?_
        rintro e' wq ⟨rfl, rfl⟩
        (try simp only [])
        refine hK'.out _ _ hHeld (fun hHeldN => ?_)
        clear hHeld
        have hHeld := hHeldN
        clear hK' K' hHeldN
        (try simp only [Act.put, gA, gB, gC, gD, gE, gF])
        refine wpAnyH_ready (rs := [17]) (by kernel_rfl) (by simp) ?_
        refine AllReadyH.cons rfl (fun K' hK' => ?_) AllReadyH.nil
        go_simp
        refine (N1.out _).mono ?_
        rintro e' wq ⟨rfl, rfl⟩
        (try simp only [])
        refine hK'.out _ _ hHeld (fun hHeldN => ?_)
        clear hHeld
        have hHeld := hHeldN
        clear hK' K' hHeldN
        (try simp only [Act.put, gA, gB, gC, gD, gE, gF])
        refine wpAnyH_take (i := 18) (v := ?_) rfl (by kernel_rfl) (by kernel_rfl) (by kernel_rfl) (fun _ _ _ h => h) (Or.inl ⟨by rfl, ?_⟩) hHeld ?_
        rotate_left
        · intro w9 hSw
          clear hSw
          go_simp
          all_goals (try with_reducible rfl)
        (try simp only [Act.put, gA, gB, gC, gD, gE, gF])
        (try simp only [u3])
        refine wpAnyH_ready (rs := [25]) (by kernel_rfl) (by simp) ?_
        refine AllReadyH.cons rfl (fun K' hK' => ?_) AllReadyH.nil
        go_simp
        refine (N2.out _).mono ?_
        rintro e' wq ⟨rfl, rfl⟩
        (try simp only [])
        refine hK'.out _ _ hHeld (fun hHeldN => ?_)
        clear hHeld
        have hHeld := hHeldN
        clear hK' K' hHeldN
        (try simp only [Act.put, gA, gB, gC, gD, gE, gF])
        refine wpAnyH_take (i := 26) (v := ?_) rfl (by kernel_rfl) (by kernel_rfl) (by kernel_rfl) (fun _ _ _ h => h) (Or.inl ⟨by rfl, ?_⟩) hHeld ?_
        rotate_left
        · intro w9 hSw
          clear hSw
          go_simp
          all_goals (try with_reducible rfl)
        (try simp only [Act.put, gA, gB, gC, gD, gE, gF])
        (try simp only [u4])
        refine wpAnyH_take (i := 27) (v := ?_) rfl (by kernel_rfl) (by kernel_rfl) (by kernel_rfl) (fun _ _ _ h => h) (Or.inl ⟨by rfl, ?_⟩) hHeld ?_
        rotate_left
        · intro w9 hSw
          clear hSw
          go_simp
          all_goals (try with_reducible rfl)
        (try simp only [Act.put, gA, gB, gC, gD, gE, gF])
        refine wpAnyH_ready (rs := [29]) (by kernel_rfl) (by simp) ?_
        refine AllReadyH.cons rfl (fun K' hK' => ?_) AllReadyH.nil
        have y0 := blk_cell HB.out 0 _ rfl
        have y1 := blk_cell HB.out 1 _ rfl
        have y2 := blk_cell HB.out 2 _ rfl
        have y3 := blk_cell HB.out 3 _ rfl
        have k0 := blk_frozen HB.out 0
        have k1 := blk_frozen HB.out 1
        have k2 := blk_frozen HB.out 2
        have k3 := blk_frozen HB.out 3
        go_simp
        have HbF := hid ((blk_set (blk_set (blk_set (blk_set HB.out 0 (.int .i64 S)) 1 (.int .i64 E)) 2 (.int .i64 v3)) 3 (.int .i64 (100 * v1 + v2))).trans (show _ = some (Obj.cells #[.int .i64 S, .int .i64 E, .int .i64 v3, .int .i64 (100 * v1 + v2)] 37 (0, 0)) from rfl))
        refine hK'.out _ _ (gr_setCell (gr_setCell (gr_setCell (gr_setCell hHeld (.inr hNge) _) (.inr hNge) _) (.inr hNge) _) (.inr hNge) _) (fun hHeldN => ?_)
        clear y0 y1 y2 y3 k0 k1 k2 k3 HB
        clear hHeld
        have hHeld := hHeldN
        clear hK' K' hHeldN
        (try simp only [Act.put, gA, gB, gC, gD, gE, gF])
        refine wpAnyH_done (by kernel_rfl) ?_ _
        have HgF := gr_trans0 Hg3.out hHeld
        have HzF := blk_keep Hz3.out hHeld (by simp)
        have HbF := HbF.out
        have n1 : ¬ w.heap.size = Nb := by have := blk_lt Hz3.out; omega
        clear hHeld u3 u4 hNge
        generalize (World.setCell _ ⟨Nb, 3, none⟩ _) = WF at *
        exact HT WF Nb ⟨HgF, HzF, HbF, n1⟩
    · go_simp
      have hHeldC := hHeld
      refine hK'.out _ _ (gr_alloc hHeld _) (fun hHeldN => ?_)
      have HB := hid (show (V3.drew.alloc (Obj.cells #[.int .i64 0, .int .i64 0, .int .i64 0, .int .i64 0] 37)).heap[V3.heap.size]? = some (Obj.cells #[.int .i64 0, .int .i64 0, .int .i64 0, .int .i64 0] 37) from heap_alloc_new V3.drew _)
      obtain ⟨Nb, hNb⟩ : ∃ Nb, Nb = V3.heap.size := ⟨_, rfl⟩
      have hNge : V3.heap.size ≤ Nb := by
        have h9 := gr_le hHeldC
        rw [hNb]
        exact h9
      rw [← hNb] at HB ⊢
      clear hHeldC
      clear hNb
      clear hHeld
      have hHeld := hHeldN
      clear hK' K' hHeldN
      (try simp only [Act.put, gA, gB, gC, gD, gE, gF])
      refine wpAnyH_ready (rs := [1]) (by kernel_rfl) (by simp) ?_
      refine AllReadyH.cons rfl (fun K' hK' => ?_) AllReadyH.nil
      go_simp
      refine (K1.out _).mono ?_
      rintro e' w8 ⟨rfl, hg⟩
      (try simp only [])
      refine hK'.out _ _ (gr_trans0 hHeld hg) (fun hHeldN => ?_)
      have HB := hid (blk_keep HB.out hg (by simp))
      clear hg
      clear hHeld
      have hHeld := hHeldN
      clear hK' K' hHeldN
      (try simp only [Act.put, gA, gB, gC, gD, gE, gF])
      refine wpAnyH_ready (rs := [3]) (by kernel_rfl) (by simp) ?_
      refine AllReadyH.cons rfl (fun K' hK' => ?_) AllReadyH.nil
      go_simp
      refine (K2.out _).mono ?_
      rintro e' w7 ⟨rfl, hg⟩
      (try simp only [])
      refine hK'.out _ _ (gr_trans0 hHeld hg) (fun hHeldN => ?_)
      have HB := hid (blk_keep HB.out hg (by simp))
      clear hg
      clear hHeld
      have hHeld := hHeldN
      clear hK' K' hHeldN
      (try simp only [Act.put, gA, gB, gC, gD, gE, gF])
      refine wpAnyH_ready (rs := [11]) (by kernel_rfl) (by simp) ?_
      refine AllReadyH.cons rfl (fun K' hK' => ?_) AllReadyH.nil
      go_simp
      refine (N3.out _).mono ?_
      rintro e' wq ⟨rfl, rfl⟩
      (try simp only [])
      refine hK'.out _ _ hHeld (fun hHeldN => ?_)
      clear hHeld
      have hHeld := hHeldN
      clear hK' K' hHeldN
      (try simp only [Act.put, gA, gB, gC, gD, gE, gF])
      refine wpAnyH_ready (rs := [17]) (by kernel_rfl) (by simp) ?_
      refine AllReadyH.cons rfl (fun K' hK' => ?_) AllReadyH.nil
      go_simp
      refine (N1.out _).mono ?_
      rintro e' wq ⟨rfl, rfl⟩
      (try simp only [])
      refine hK'.out _ _ hHeld (fun hHeldN => ?_)
      clear hHeld
      have hHeld := hHeldN
      clear hK' K' hHeldN
      (try simp only [Act.put, gA, gB, gC, gD, gE, gF])
      refine wpAnyH_take (i := 18) (v := ?_) rfl (by kernel_rfl) (by kernel_rfl) (by kernel_rfl) (fun _ _ _ h => h) (Or.inl ⟨by rfl, ?_⟩) hHeld ?_
      rotate_left
      · intro w9 hSw
        clear hSw
        go_simp
        all_goals (try with_reducible rfl)
      (try simp only [Act.put, gA, gB, gC, gD, gE, gF])
      (try simp only [u3])
      refine wpAnyH_ready (rs := [25]) (by kernel_rfl) (by simp) ?_
      refine AllReadyH.cons rfl (fun K' hK' => ?_) AllReadyH.nil
      go_simp
      refine (N2.out _).mono ?_
      rintro e' wq ⟨rfl, rfl⟩
      (try simp only [])
      refine hK'.out _ _ hHeld (fun hHeldN => ?_)
      clear hHeld
      have hHeld := hHeldN
      clear hK' K' hHeldN
      (try simp only [Act.put, gA, gB, gC, gD, gE, gF])
      refine wpAnyH_take (i := 26) (v := ?_) rfl (by kernel_rfl) (by kernel_rfl) (by kernel_rfl) (fun _ _ _ h => h) (Or.inl ⟨by rfl, ?_⟩) hHeld ?_
      rotate_left
      · intro w9 hSw
        clear hSw
        go_simp
        all_goals (try with_reducible rfl)
      (try simp only [Act.put, gA, gB, gC, gD, gE, gF])
      (try simp only [u4])
      refine wpAnyH_take (i := 27) (v := ?_) rfl (by kernel_rfl) (by kernel_rfl) (by kernel_rfl) (fun _ _ _ h => h) (Or.inl ⟨by rfl, ?_⟩) hHeld ?_
      rotate_left
      · intro w9 hSw
        clear hSw
        go_simp
        all_goals (try with_reducible rfl)
      (try simp only [Act.put, gA, gB, gC, gD, gE, gF])
      refine wpAnyH_ready (rs := [29]) (by kernel_rfl) (by simp) ?_
      refine AllReadyH.cons rfl (fun K' hK' => ?_) AllReadyH.nil
      have y0 := blk_cell HB.out 0 _ rfl
      have y1 := blk_cell HB.out 1 _ rfl
      have y2 := blk_cell HB.out 2 _ rfl
      have y3 := blk_cell HB.out 3 _ rfl
      have k0 := blk_frozen HB.out 0
      have k1 := blk_frozen HB.out 1
      have k2 := blk_frozen HB.out 2
      have k3 := blk_frozen HB.out 3
      go_simp
      have HbF := hid ((blk_set (blk_set (blk_set (blk_set HB.out 0 (.int .i64 S)) 1 (.int .i64 E)) 2 (.int .i64 v3)) 3 (.int .i64 (100 * v1 + v2))).trans (show _ = some (Obj.cells #[.int .i64 S, .int .i64 E, .int .i64 v3, .int .i64 (100 * v1 + v2)] 37 (0, 0)) from rfl))
      refine hK'.out _ _ (gr_setCell (gr_setCell (gr_setCell (gr_setCell hHeld (.inr hNge) _) (.inr hNge) _) (.inr hNge) _) (.inr hNge) _) (fun hHeldN => ?_)
      clear y0 y1 y2 y3 k0 k1 k2 k3 HB
      clear hHeld
      have hHeld := hHeldN
      clear hK' K' hHeldN
      (try simp only [Act.put, gA, gB, gC, gD, gE, gF])
      refine wpAnyH_done (by kernel_rfl) ?_ _
      have HgF := gr_trans0 Hg3.out hHeld
      have HzF := blk_keep Hz3.out hHeld (by simp)
      have HbF := HbF.out
      have n1 : ¬ w.heap.size = Nb := by have := blk_lt Hz3.out; omega
      clear hHeld u3 u4 hNge
      generalize (World.setCell _ ⟨Nb, 3, none⟩ _) = WF at *
      exact HT WF Nb ⟨HgF, HzF, HbF, n1⟩
  case tail =>
    intro WF Nb hfacts
    have HgF := hid hfacts.1
    have HzF := hid hfacts.2.1
    have HbF := hid hfacts.2.2.1
    have n1 := hfacts.2.2.2
    have n2 : ¬ Nb = w.heap.size := fun e => n1 e.symm
    clear hfacts
    have f0 := blk_cell HbF.out 0 _ rfl
    have f1 := blk_cell HbF.out 1 _ rfl
    have f2 := blk_cell HbF.out 2 _ rfl
    have f3 := blk_cell HbF.out 3 _ rfl
    go_wp2_with fail
    refine (HVV.out _).mono ?_
    rintro e' wv ⟨rfl, hg⟩
    have HgV := hid (gr_trans0 HgF.out hg)
    have HzV := hid (blk_keep HzF.out hg (by simp))
    have HbV := hid (blk_keep HbF.out hg (by simp))
    clear hg f0 f1 f2 f3
    cases hbb : bondB ⟨S, E, v3, 100 * v1 + v2⟩ with
    | false =>
      have HE := hid (HC.out.1 (by
        cases h : pbOk l with
        | false => rfl
        | true => have := (HC.out.2.1 h).1; rw [hbb] at this; cases this))
      clear hbb
      have z0 := blk_cell HzV.out 0 _ rfl
      have z1 := blk_cell HzV.out 1 _ rfl
      have z2 := blk_cell HzV.out 2 _ rfl
      have z3 := blk_cell HzV.out 3 _ rfl
      have g0 := blk_frozen HzV.out 0
      have g1 := blk_frozen HzV.out 1
      have g2 := blk_frozen HzV.out 2
      have g3 := blk_frozen HzV.out 3
      go_wp2_with fail
      refine bodyPost_ret (v := .tuple #[.agg #[.int .i64 0, .int .i64 0, .int .i64 0, .int .i64 0], .bool false]) (by simp [results, Tryz.results60, go_sem, *]) rfl ⟨spb_ret HE.out, ?_⟩
      repeat (first | exact HgV.out | refine gr_setCell ?_ (.inr (Nat.le_refl _)) _)
    | true =>
      have f0 := blk_cell HbV.out 0 _ rfl
      have f1 := blk_cell HbV.out 1 _ rfl
      have f2 := blk_cell HbV.out 2 _ rfl
      have f3 := blk_cell HbV.out 3 _ rfl
      have Hbb := hid hbb
      clear hbb
      go_wp2_with fail
      refine (HFB.out _ Hbb.out).mono ?_
      rintro e' wx ⟨rfl, hg⟩
      have HgX := hid (gr_trans0 HgV.out hg)
      have HzX := hid (blk_keep HzV.out hg (by simp))
      have hbx := blk_keep HbV.out hg (by simp)
      clear hg f0 f1 f2 f3
      have f0 := blk_cell hbx 0 _ rfl
      have f1 := blk_cell hbx 1 _ rfl
      have f2 := blk_cell hbx 2 _ rfl
      have f3 := blk_cell hbx 3 _ rfl
      clear hbx
      have z0 := blk_cell HzX.out 0 _ rfl
      have z1 := blk_cell HzX.out 1 _ rfl
      have z2 := blk_cell HzX.out 2 _ rfl
      have z3 := blk_cell HzX.out 3 _ rfl
      have g0 := blk_frozen HzX.out 0
      have g1 := blk_frozen HzX.out 1
      have g2 := blk_frozen HzX.out 2
      have g3 := blk_frozen HzX.out 3
      cases hp : pbOk l with
      | false =>
        have HE := hid (HC.out.1 hp)
        have hF := HC.out.2.2 hp Hbb.out
        clear hp Hbb HC HVV HFB
        generalize bondT ⟨S, E, v3, 100 * v1 + v2⟩ = F at *
        have hF2 : (F == l) = false := by simpa using hF
        clear hF
        go_wp2_with fail
        refine bodyPost_ret (v := .tuple #[.agg #[.int .i64 0, .int .i64 0, .int .i64 0, .int .i64 0], .bool false]) (by simp [results, Tryz.results60, go_sem, *]) rfl ⟨spb_ret HE.out, ?_⟩
        repeat (first | exact HgX.out | refine gr_setCell ?_ (.inr (Nat.le_refl _)) _)
      | true =>
        have HE := hid (And.intro (HC.out.2.1 hp).2.2 hp)
        have hF := (HC.out.2.1 hp).2.1
        clear hp Hbb HC HVV HFB
        generalize bondT ⟨S, E, v3, 100 * v1 + v2⟩ = F at *
        have hF2 : (F == l) = true := by simpa using hF
        clear hF
        go_wp2_with fail
        refine bodyPost_ret (v := .tuple #[.agg #[.int .i64 S, .int .i64 E, .int .i64 v3, .int .i64 (100 * v1 + v2)], .bool true]) (by simp [results, Tryz.results60, go_sem, *]) rfl ⟨spb_ret HE.out, ?_⟩
        repeat (first | exact HgX.out | refine gr_setCell ?_ (.inr (Nat.le_refl _)) _)

end Go.Proofs.YtielicmjdhmcjaaGreatDoor

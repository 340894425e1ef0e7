/- Packed: SpecLine. -/
import Derived.Test.YtielicmjdhmcjaaGreatDoorRows
import Derived.Test.YtielicmjdhmcjaaGreatDoorPk44
/- A line executed by the reference's desk. -/
namespace Go.Proofs.YtielicmjdhmcjaaGreatDoor
open Go.RowKit

theorem trade_bad (s : Desk) (m p : Int) (h : trB ⟨s.day, m, p⟩ = false) : tradeD s m p = (s, noT) := by
  show (if _ then _ else _) = _
  refine if_neg (fun ht => ?_)
  unfold tradesB at ht
  simp only [Bool.and_eq_true] at ht
  have h9 := upto_of _ _ s.trades.length (by simp) ht.2
  unfold okAt at h9
  simp only [Bool.and_eq_true] at h9
  have h8 := h9.1
  have e : (s.trades ++ [(⟨s.day, m, p⟩ : Trade)]).getD s.trades.length ⟨0, 0, 0⟩ = ⟨s.day, m, p⟩ := by simp [List.getD_eq_getElem?_getD]
  rw [e, h] at h8
  cases h8
theorem small_is (l : List UInt8) : (smallW l = -1 ∧ numW l = impN) ∨ (smallW l = numW l ∧ 0 ≤ numW l ∧ numW l ≤ 99999) := by
  unfold smallW
  rcases numW_bd l with h | h
  · left; rw [h]; exact ⟨rfl, rfl⟩
  · right; rw [if_neg (by unfold impN; omega)]; exact ⟨rfl, h⟩
theorem trB_many {d m p : Int} (h : m = 0 ∨ m < -9999 ∨ 9999 < m) : trB ⟨d, m, p⟩ = false := by
  unfold trB withinB
  rcases h with h | h | h
  · simp [h]
  · have : decide (-9999 ≤ m) = false := by simp; omega
    simp [this]
  · have : decide (m ≤ 9999) = false := by simp; omega
    simp [this]
theorem trB_price {d m p : Int} (h : p < 1 ∨ 50000 < p) : trB ⟨d, m, p⟩ = false := by
  unfold trB withinB
  rcases h with h | h
  · have : decide (1 ≤ p) = false := by simp; omega
    simp [this]
  · have : decide (p ≤ 50000) = false := by simp; omega
    simp [this]
theorem trade_small (s : Desk) (m m2 : Int) (b : List UInt8) (hm : m = m2 ∨ (m = 0 ∧ (m2 < -9999 ∨ 9999 < m2))) : tradeD s m (smallW b) = tradeD s m2 (numW b) := by
  rcases hm with rfl | ⟨rfl, hm⟩
  · rcases small_is b with ⟨h1, h2⟩ | ⟨h1, _⟩
    · rw [h1, h2, trade_bad _ _ _ (trB_price (.inl (by decide))), trade_bad _ _ _ (trB_price (.inl (by decide)))]
    · rw [h1]
  · rw [trade_bad _ _ _ (trB_many (.inl rfl)), trade_bad _ _ _ (trB_many (.inr hm))]
def bigW (l : List UInt8) : Int := max (smallW l) 0
theorem buy_small (s : Desk) (a b : List UInt8) : tradeD s (bigW a) (smallW b) = tradeD s (numW a) (numW b) := by
  apply trade_small
  unfold bigW
  rcases small_is a with ⟨h1, h2⟩ | ⟨h1, h2, h3⟩
  · right; rw [h1, h2]; exact ⟨rfl, .inl (by decide)⟩
  · left; rw [h1]; omega
theorem sell_small (s : Desk) (a b : List UInt8) : tradeD s (-bigW a) (smallW b) = tradeD s (-numW a) (numW b) := by
  apply trade_small
  unfold bigW
  rcases small_is a with ⟨h1, h2⟩ | ⟨h1, h2, h3⟩
  · right; rw [h1, h2]; exact ⟨rfl, .inr (by decide)⟩
  · left; rw [h1]; omega
theorem price_small (s : Desk) (a : List UInt8) : priceT s (smallW a) = priceT s (numW a) := by
  rcases small_is a with ⟨h1, h2⟩ | ⟨h1, _⟩
  · unfold priceT
    rw [if_neg, if_neg]
    · unfold priceB yieldB; rw [h2]; simp [impN]
    · unfold priceB yieldB; rw [h1]; simp
  · rw [h1]

theorem wordsl_at {w : World} {g : Nat} {n : Nat} {ws : List (List UInt8)} (h : Sl strL w (some ⟨g, 0, none⟩) n ws) (i : Nat) (x : List UInt8) (hx : ws[i]? = some x) : w.cell? ⟨g, i, none⟩ = some (.string ⟨(x).toArray⟩) := by
  obtain ⟨b, off, y, e, hy, _, c⟩ := h.at i (by rw [← h.len]; exact lt_of_at hx)
  cases e
  rw [hx] at hy; cases hy
  have := c 0 _ rfl
  simpa [strL] using this
theorem bigW_bd (l : List UInt8) : 0 ≤ bigW l ∧ bigW l ≤ 99999 := by
  unfold bigW
  rcases small_is l with ⟨h1, _⟩ | ⟨h1, h2, h3⟩ <;> rw [h1] <;> omega

set_option maxRecDepth 100000 in
set_option maxHeartbeats 2000000 in
theorem words_any (sb : Nat) (s : Desk) (g n cap : Nat) (ws : List (List UInt8)) (w : World) (hd : DeskAt 53 w sb s) (hok : OkDesk s) (hs : Sl strL w (some ⟨g, 0, none⟩) n ws) (hn : 0 < n) (hn2 : n ≤ 2000001) (hl : ∀ x ∈ ws, x.length ≤ 2000000) (h1 : n = 1 → wordsD s ws = (s, whatT)) :
    Calls Tryz.prog 43 #[.pointer (some ⟨sb, 0, none⟩), .slice (some ⟨g, 0, none⟩) n cap] w fun e w' => e = .returned (.string ⟨((wordsD s ws).2).toArray⟩) ∧ DeskAt 53 w' sb (wordsD s ws).1 ∧ w.grownBy w' (some sb) := by
  have HD := hid hd
  obtain ⟨x0, xs, rfl⟩ : ∃ x xs, ws = x :: xs := by
    cases ws with
    | nil => have := hs.len; simp at this; omega
    | cons x xs => exact ⟨x, xs, rfl⟩
  have k0 := wordsl_at hs 0 x0 rfl
  have hne : ¬ sb = g := by
    obtain ⟨_, _, _, h⟩ := hd
    rintro rfl
    rw [blk_cell h.c 0 _ rfl] at k0
    cases k0
  have hlen := hs.len
  simp only [List.length_cons] at hlen
  by_cases h3 : n = 3
  · subst h3
    obtain ⟨a, b, rfl⟩ : ∃ a b, xs = [a, b] := by
      match xs, hlen with
      | [a, b], _ => exact ⟨a, b, rfl⟩
    have k1 := wordsl_at hs 1 a rfl
    have k2 := wordsl_at hs 2 b rfl
    have S1 := hid (fun wx => small_any a wx (hl a (by simp)))
    have S2 := hid (fun wx => small_any b wx (hl b (by simp)))
    by_cases hb : x0 = buyW
    · have HT := hid (show wordsD s [x0, a, b] = tradeD s (bigW a) (smallW b) by rw [buy_small, hb]; rfl)
      have q1 : (x0 == [98, 117, 121]) = true := by rw [hb]; rfl
      have HTr := hid (fun wx (hg : w.grownBy wx none) => spectrade_any sb s (bigW a) (smallW b) wx (hd.keep0 hg) hok)
      have hBb := bigW_bd a
      obtain ⟨B, hB⟩ : ∃ B, bigW a = B := ⟨_, rfl⟩
      rw [hB] at HTr HT hBb
      have hB2 : max (smallW a) 0 = B := hB
      clear hB
      generalize smallW a = va at *
      generalize smallW b = vb at *
      clear hb hs hd hok hl h1 hlen
      go_enter Tryz.func43, Tryz.ntmps43
      go_wp2_with fail
      refine wp_region_held_drew (S := fun w' => w.grownBy w' none ∨ (DeskAt 53 w' sb (tradeD s B vb).1 ∧ w.grownBy w' (some sb))) (by kernel_rfl) (.inl (gr_drew (gr0 _))) (fun hHeld => ?_)
      refine wpAnyH_take (i := 0) (v := ?_) rfl (by kernel_rfl) (by kernel_rfl) (by kernel_rfl) (fun _ _ _ h => h) (Or.inl ⟨by rfl, ?_⟩) hHeld ?_
      rotate_left
      · intro w9 hSw
        (have x0 := hSw.elim (fun h => h.cell k1 (by simp)) (fun h => h.2.cell k1 (by simpa using fun e => hne e.symm)); clear hSw)
        go_simp
        all_goals (try with_reducible rfl)
      (try simp only [Act.put, gA, gC, gD, gE, gF])
      refine wpAnyH_take (i := 1) (v := ?_) rfl (by kernel_rfl) (by kernel_rfl) (by kernel_rfl) (fun _ _ _ h => h) (Or.inl ⟨by rfl, ?_⟩) hHeld ?_
      rotate_left
      · intro w9 hSw
        (have x0 := hSw.elim (fun h => h.cell k1 (by simp)) (fun h => h.2.cell k1 (by simpa using fun e => hne e.symm)); clear hSw)
        go_simp
        all_goals (try with_reducible rfl)
      (try simp only [Act.put, gA, gB, gC, gD, gE, gF])
      refine wpAnyH_take (i := 2) (v := ?_) rfl (by kernel_rfl) (by kernel_rfl) (by kernel_rfl) (fun _ _ _ h => h) (Or.inl ⟨by rfl, ?_⟩) hHeld ?_
      rotate_left
      · intro w9 hSw
        (have x0 := hSw.elim (fun h => h.cell k1 (by simp)) (fun h => h.2.cell k1 (by simpa using fun e => hne e.symm)); clear hSw)
        go_simp
        all_goals (try with_reducible rfl)
      (try simp only [Act.put, gA, gB, gC, gD, gE, gF])
      refine wpAnyH_take (i := 3) (v := ?_) rfl (by kernel_rfl) (by kernel_rfl) (by kernel_rfl) (fun _ _ _ h => h) (Or.inl ⟨by rfl, ?_⟩) hHeld ?_
      rotate_left
      · intro w9 hSw
        (have x0 := hSw.elim (fun h => h.cell k1 (by simp)) (fun h => h.2.cell k1 (by simpa using fun e => hne e.symm)); clear hSw)
        go_simp
        all_goals (try with_reducible rfl)
      (try simp only [Act.put, gA, gB, gC, gD, gE, gF])
      refine wpAnyH_take (i := 6) (v := ?_) rfl (by kernel_rfl) (by kernel_rfl) (by kernel_rfl) (fun _ _ _ h => h) (Or.inl ⟨by rfl, ?_⟩) hHeld ?_
      rotate_left
      · intro w9 hSw
        (have x0 := hSw.elim (fun h => h.cell k2 (by simp)) (fun h => h.2.cell k2 (by simpa using fun e => hne e.symm)); clear hSw)
        go_simp
        all_goals (try with_reducible rfl)
      (try simp only [Act.put, gA, gB, gC, gD, gE, gF])
      refine wpAnyH_take (i := 7) (v := ?_) rfl (by kernel_rfl) (by kernel_rfl) (by kernel_rfl) (fun _ _ _ h => h) (Or.inl ⟨by rfl, ?_⟩) hHeld ?_
      rotate_left
      · intro w9 hSw
        (have x0 := hSw.elim (fun h => h.cell k2 (by simp)) (fun h => h.2.cell k2 (by simpa using fun e => hne e.symm)); clear hSw)
        go_simp
        all_goals (try with_reducible rfl)
      (try simp only [Act.put, gA, gB, gC, gD, gE, gF])
      refine wpAnyH_take (i := 8) (v := ?_) rfl (by kernel_rfl) (by kernel_rfl) (by kernel_rfl) (fun _ _ _ h => h) (Or.inl ⟨by rfl, ?_⟩) hHeld ?_
      rotate_left
      · intro w9 hSw
        (have x0 := hSw.elim (fun h => h.cell k2 (by simp)) (fun h => h.2.cell k2 (by simpa using fun e => hne e.symm)); clear hSw)
        go_simp
        all_goals (try with_reducible rfl)
      (try simp only [Act.put, gA, gB, gC, gD, gE, gF])
      refine wpAnyH_ready (rs := [4]) (by kernel_rfl) (by simp) ?_
      refine AllReadyH.cons rfl (fun K' hK' => ?_) AllReadyH.nil
      go_simp
      refine (S1.out _).mono ?_
      rintro e' w1 ⟨rfl, hg⟩
      have G1 := gr_trans0 (gr_drew (gr0 _)) hg
      (try simp only [])
      refine hK'.out _ _ (.inl G1) (fun hHeldN => ?_)
      clear hHeld
      have hHeld := hHeldN
      clear hK' K' hHeldN hg
      (try simp only [Act.put, gA, gB, gC, gD, gE, gF])
      refine wpAnyH_take (i := 5) (v := ?_) rfl (by kernel_rfl) (by kernel_rfl) (by kernel_rfl) (fun _ _ _ h => h) (Or.inl ⟨by rfl, ?_⟩) hHeld ?_
      rotate_left
      · intro w9 hSw
        clear hSw
        go_simp
        all_goals (try with_reducible rfl)
      (try simp only [Act.put, gA, gB, gC, gD, gE, gF])
      (try simp only [hB2])
      refine wpAnyH_ready (rs := [9]) (by kernel_rfl) (by simp) ?_
      refine AllReadyH.cons rfl (fun K' hK' => ?_) AllReadyH.nil
      go_simp
      refine (S2.out _).mono ?_
      rintro e' w2 ⟨rfl, hg⟩
      have G2 := gr_trans0 G1 hg
      (try simp only [])
      refine hK'.out _ _ (.inl G2) (fun hHeldN => ?_)
      clear hHeld
      have hHeld := hHeldN
      clear hK' K' hHeldN hg
      (try simp only [Act.put, gA, gB, gC, gD, gE, gF])
      refine wpAnyH_ready (rs := [10]) (by kernel_rfl) (by simp) ?_
      refine AllReadyH.cons rfl (fun K' hK' => ?_) AllReadyH.nil
      go_simp
      refine (HTr.out _ G2).mono ?_
      rintro e' w3 ⟨rfl, hd3, hg3⟩
      have G3 := gr_transS (gr_any G2 (some sb)) hg3
      (try simp only [])
      refine hK'.out _ _ (.inr ⟨hd3, G3⟩) (fun hHeldN => ?_)
      clear hHeld
      have hHeld := hHeldN
      clear hK' K' hHeldN hg3
      (try simp only [Act.put, gA, gB, gC, gD, gE, gF])
      refine wpAnyH_take (i := 11) (v := ?_) rfl (by kernel_rfl) (by kernel_rfl) (by kernel_rfl) (fun _ _ _ h => h) (Or.inl ⟨by rfl, ?_⟩) hHeld ?_
      rotate_left
      · intro w9 hSw
        clear hSw
        go_simp
        all_goals (try with_reducible rfl)
      (try simp only [Act.put, gA, gB, gC, gD, gE, gF])
      refine wpAnyH_done (by kernel_rfl) ?_ _
      have HD3 := hid hd3
      have HG3 := hid G3
      clear hHeld hd3 G3 G2 G1
      go_wp2_with fail
      go_ret
      exact ⟨ret_text (by rw [HT.out]), by rw [HT.out]; exact HD3.out, HG3.out⟩
    · have q1 : (x0 == [98, 117, 121]) = false := by simpa [buyW] using hb
      by_cases hc : x0 = sellW
      · have HT := hid (show wordsD s [x0, a, b] = tradeD s (-bigW a) (smallW b) by rw [sell_small, hc]; rfl)
        have q2 : (x0 == [115, 101, 108, 108]) = true := by rw [hc]; rfl
        clear hc
        have HTr := hid (fun wx (hg : w.grownBy wx none) => spectrade_any sb s (-bigW a) (smallW b) wx (hd.keep0 hg) hok)
        have hBb := bigW_bd a
        obtain ⟨B, hB⟩ : ∃ B, bigW a = B := ⟨_, rfl⟩
        rw [hB] at HTr HT hBb
        have hB2 : max (smallW a) 0 = B := hB
        clear hB
        generalize smallW a = va at *
        generalize smallW b = vb at *
        clear hb hs hd hok hl h1 hlen
        have u1 : IntKind.i64.wrap (-B) = -B := IntWalk.i64_in _ (by omega)
        go_enter Tryz.func43, Tryz.ntmps43
        go_wp2_with fail
        refine wp_region_held_drew (S := fun w' => w.grownBy w' none ∨ (DeskAt 53 w' sb (tradeD s (-B) vb).1 ∧ w.grownBy w' (some sb))) (by kernel_rfl) (.inl (gr_drew (gr0 _))) (fun hHeld => ?_)
        refine wpAnyH_take (i := 0) (v := ?_) rfl (by kernel_rfl) (by kernel_rfl) (by kernel_rfl) (fun _ _ _ h => h) (Or.inl ⟨by rfl, ?_⟩) hHeld ?_
        rotate_left
        · intro w9 hSw
          (have x0 := hSw.elim (fun h => h.cell k1 (by simp)) (fun h => h.2.cell k1 (by simpa using fun e => hne e.symm)); clear hSw)
          go_simp
          all_goals (try with_reducible rfl)
        (try simp only [Act.put, gA, gC, gD, gE, gF])
        refine wpAnyH_take (i := 1) (v := ?_) rfl (by kernel_rfl) (by kernel_rfl) (by kernel_rfl) (fun _ _ _ h => h) (Or.inl ⟨by rfl, ?_⟩) hHeld ?_
        rotate_left
        · intro w9 hSw
          (have x0 := hSw.elim (fun h => h.cell k1 (by simp)) (fun h => h.2.cell k1 (by simpa using fun e => hne e.symm)); clear hSw)
          go_simp
          all_goals (try with_reducible rfl)
        (try simp only [Act.put, gA, gB, gC, gD, gE, gF])
        refine wpAnyH_take (i := 2) (v := ?_) rfl (by kernel_rfl) (by kernel_rfl) (by kernel_rfl) (fun _ _ _ h => h) (Or.inl ⟨by rfl, ?_⟩) hHeld ?_
        rotate_left
        · intro w9 hSw
          (have x0 := hSw.elim (fun h => h.cell k1 (by simp)) (fun h => h.2.cell k1 (by simpa using fun e => hne e.symm)); clear hSw)
          go_simp
          all_goals (try with_reducible rfl)
        (try simp only [Act.put, gA, gB, gC, gD, gE, gF])
        refine wpAnyH_take (i := 3) (v := ?_) rfl (by kernel_rfl) (by kernel_rfl) (by kernel_rfl) (fun _ _ _ h => h) (Or.inl ⟨by rfl, ?_⟩) hHeld ?_
        rotate_left
        · intro w9 hSw
          (have x0 := hSw.elim (fun h => h.cell k1 (by simp)) (fun h => h.2.cell k1 (by simpa using fun e => hne e.symm)); clear hSw)
          go_simp
          all_goals (try with_reducible rfl)
        (try simp only [Act.put, gA, gB, gC, gD, gE, gF])
        refine wpAnyH_take (i := 7) (v := ?_) rfl (by kernel_rfl) (by kernel_rfl) (by kernel_rfl) (fun _ _ _ h => h) (Or.inl ⟨by rfl, ?_⟩) hHeld ?_
        rotate_left
        · intro w9 hSw
          (have x0 := hSw.elim (fun h => h.cell k2 (by simp)) (fun h => h.2.cell k2 (by simpa using fun e => hne e.symm)); clear hSw)
          go_simp
          all_goals (try with_reducible rfl)
        (try simp only [Act.put, gA, gB, gC, gD, gE, gF])
        refine wpAnyH_take (i := 8) (v := ?_) rfl (by kernel_rfl) (by kernel_rfl) (by kernel_rfl) (fun _ _ _ h => h) (Or.inl ⟨by rfl, ?_⟩) hHeld ?_
        rotate_left
        · intro w9 hSw
          (have x0 := hSw.elim (fun h => h.cell k2 (by simp)) (fun h => h.2.cell k2 (by simpa using fun e => hne e.symm)); clear hSw)
          go_simp
          all_goals (try with_reducible rfl)
        (try simp only [Act.put, gA, gB, gC, gD, gE, gF])
        refine wpAnyH_take (i := 9) (v := ?_) rfl (by kernel_rfl) (by kernel_rfl) (by kernel_rfl) (fun _ _ _ h => h) (Or.inl ⟨by rfl, ?_⟩) hHeld ?_
        rotate_left
        · intro w9 hSw
          (have x0 := hSw.elim (fun h => h.cell k2 (by simp)) (fun h => h.2.cell k2 (by simpa using fun e => hne e.symm)); clear hSw)
          go_simp
          all_goals (try with_reducible rfl)
        (try simp only [Act.put, gA, gB, gC, gD, gE, gF])
        refine wpAnyH_ready (rs := [4]) (by kernel_rfl) (by simp) ?_
        refine AllReadyH.cons rfl (fun K' hK' => ?_) AllReadyH.nil
        go_simp
        refine (S1.out _).mono ?_
        rintro e' w1 ⟨rfl, hg⟩
        have G1 := gr_trans0 (gr_drew (gr0 _)) hg
        (try simp only [])
        refine hK'.out _ _ (.inl G1) (fun hHeldN => ?_)
        clear hHeld
        have hHeld := hHeldN
        clear hK' K' hHeldN hg
        (try simp only [Act.put, gA, gB, gC, gD, gE, gF])
        refine wpAnyH_take (i := 5) (v := ?_) rfl (by kernel_rfl) (by kernel_rfl) (by kernel_rfl) (fun _ _ _ h => h) (Or.inl ⟨by rfl, ?_⟩) hHeld ?_
        rotate_left
        · intro w9 hSw
          clear hSw
          go_simp
          all_goals (try with_reducible rfl)
        (try simp only [Act.put, gA, gB, gC, gD, gE, gF])
        (try simp only [hB2])
        refine wpAnyH_take (i := 6) (v := ?_) rfl (by kernel_rfl) (by kernel_rfl) (by kernel_rfl) (fun _ _ _ h => h) (Or.inl ⟨by rfl, ?_⟩) hHeld ?_
        rotate_left
        · intro w9 hSw
          clear hSw
          go_simp
          all_goals (try with_reducible rfl)
        (try simp only [Act.put, gA, gB, gC, gD, gE, gF])
        (try simp only [u1])
        refine wpAnyH_ready (rs := [10]) (by kernel_rfl) (by simp) ?_
        refine AllReadyH.cons rfl (fun K' hK' => ?_) AllReadyH.nil
        go_simp
        refine (S2.out _).mono ?_
        rintro e' w2 ⟨rfl, hg⟩
        have G2 := gr_trans0 G1 hg
        (try simp only [])
        refine hK'.out _ _ (.inl G2) (fun hHeldN => ?_)
        clear hHeld
        have hHeld := hHeldN
        clear hK' K' hHeldN hg
        (try simp only [Act.put, gA, gB, gC, gD, gE, gF])
        refine wpAnyH_ready (rs := [11]) (by kernel_rfl) (by simp) ?_
        refine AllReadyH.cons rfl (fun K' hK' => ?_) AllReadyH.nil
        go_simp
        refine (HTr.out _ G2).mono ?_
        rintro e' w3 ⟨rfl, hd3, hg3⟩
        have G3 := gr_transS (gr_any G2 (some sb)) hg3
        (try simp only [])
        refine hK'.out _ _ (.inr ⟨hd3, G3⟩) (fun hHeldN => ?_)
        clear hHeld
        have hHeld := hHeldN
        clear hK' K' hHeldN hg3
        (try simp only [Act.put, gA, gB, gC, gD, gE, gF])
        refine wpAnyH_take (i := 12) (v := ?_) rfl (by kernel_rfl) (by kernel_rfl) (by kernel_rfl) (fun _ _ _ h => h) (Or.inl ⟨by rfl, ?_⟩) hHeld ?_
        rotate_left
        · intro w9 hSw
          clear hSw
          go_simp
          all_goals (try with_reducible rfl)
        (try simp only [Act.put, gA, gB, gC, gD, gE, gF])
        refine wpAnyH_done (by kernel_rfl) ?_ _
        have HD3 := hid hd3
        have HG3 := hid G3
        clear hHeld hd3 G3 G2 G1
        go_wp2_with fail
        go_ret
        exact ⟨ret_text (by rw [HT.out]), by rw [HT.out]; exact HD3.out, HG3.out⟩
      · have q2 : (x0 == [115, 101, 108, 108]) = false := by simpa [sellW] using hc
        have HT := hid (show wordsD s [x0, a, b] = (s, whatT) by show (if _ then _ else _) = _; rw [if_neg hb, if_neg hc])
        clear hb hc hs hd hok hl h1 hlen
        cases q3 : (x0 == [112, 114, 105, 99, 101]) with
        | false => go_enter Tryz.func43, Tryz.ntmps43
                   go_wp2_with fail
                   go_ret
                   exact ⟨ret_text (a := whatT) (by rw [HT.out]), by rw [HT.out]; exact HD.out, gr_refl _ _⟩
        | true => go_enter Tryz.func43, Tryz.ntmps43
                  go_wp2_with fail
                  go_ret
                  exact ⟨ret_text (a := whatT) (by rw [HT.out]), by rw [HT.out]; exact HD.out, gr_refl _ _⟩
  have d3 : ((n : Int) == 3) = false := by simp; omega
  by_cases h2 : n = 2
  · subst h2
    obtain ⟨a, rfl⟩ : ∃ a, xs = [a] := by
      match xs, hlen with
      | [a], _ => exact ⟨a, rfl⟩
    have k1 := wordsl_at hs 1 a rfl
    have S1 := hid (fun wx => small_any a wx (hl a (by simp)))
    by_cases hb : x0 = priceW
    · have HT := hid (show wordsD s [x0, a] = (s, priceT s (smallW a)) by rw [price_small, hb]; rfl)
      have HP := hid (fun wx (hg : w.grownBy wx none) => specprice2_any sb s (smallW a) wx (hd.keep0 hg))
      have q1 : (x0 == [98, 117, 121]) = false := by rw [hb]; rfl
      have q2 : (x0 == [115, 101, 108, 108]) = false := by rw [hb]; rfl
      have q3 : (x0 == [112, 114, 105, 99, 101]) = true := by rw [hb]; rfl
      generalize smallW a = va at *
      clear hb hs hd hok hl h1 hlen
      go_enter Tryz.func43, Tryz.ntmps43
      go_wp2_with fail
      refine (S1.out _).mono ?_
      rintro e w1 ⟨rfl, hg⟩
      have HG1 := hid hg
      clear hg
      go_wp2_with fail
      refine (HP.out _ HG1.out).mono ?_
      rintro e w2 ⟨rfl, hg⟩
      have HG2 := hid (gr_trans0 HG1.out hg)
      clear hg
      go_wp2_with fail
      go_ret
      exact ⟨ret_text (by rw [HT.out]), by rw [HT.out]; exact HD.out.keep0 HG2.out, gr_any HG2.out _⟩
    · have q3 : (x0 == [112, 114, 105, 99, 101]) = false := by simpa [priceW] using hb
      have HT := hid (show wordsD s [x0, a] = (s, whatT) by show (if _ then _ else _) = _; rw [if_neg hb])
      clear hb hs hd hok hl h1 hlen
      cases q1 : (x0 == [98, 117, 121]) with
      | true =>
        have q2 : (x0 == [115, 101, 108, 108]) = false := by rw [beq_iff_eq] at q1; rw [q1]; rfl
        go_enter Tryz.func43, Tryz.ntmps43
        go_wp2_with fail
        go_ret
        exact ⟨ret_text (a := whatT) (by rw [HT.out]), by rw [HT.out]; exact HD.out, gr_refl _ _⟩
      | false =>
        cases q2 : (x0 == [115, 101, 108, 108]) with
        | true => go_enter Tryz.func43, Tryz.ntmps43
                  go_wp2_with fail
                  go_ret
                  exact ⟨ret_text (a := whatT) (by rw [HT.out]), by rw [HT.out]; exact HD.out, gr_refl _ _⟩
        | false => go_enter Tryz.func43, Tryz.ntmps43
                   go_wp2_with fail
                   go_ret
                   exact ⟨ret_text (a := whatT) (by rw [HT.out]), by rw [HT.out]; exact HD.out, gr_refl _ _⟩
  have d2 : ((n : Int) == 2) = false := by simp; omega
  have HT := hid (show wordsD s (x0 :: xs) = (s, whatT) by
    match xs, hlen with
    | [], h => exact h1 (by simpa using h.symm)
    | [a], h => simp at h; omega
    | [a, b], h => simp at h; omega
    | _ :: _ :: _ :: _, _ => rfl)
  clear hs hd hok hl h1 hlen
  cases q1 : (x0 == [98, 117, 121]) with
  | true =>
    have q2 : (x0 == [115, 101, 108, 108]) = false := by rw [beq_iff_eq] at q1; rw [q1]; rfl
    have q3 : (x0 == [112, 114, 105, 99, 101]) = false := by rw [beq_iff_eq] at q1; rw [q1]; rfl
    go_enter Tryz.func43, Tryz.ntmps43
    go_wp2_with fail
    go_ret
    exact ⟨ret_text (a := whatT) (by rw [HT.out]), by rw [HT.out]; exact HD.out, gr_refl _ _⟩
  | false =>
    cases q2 : (x0 == [115, 101, 108, 108]) with
    | true =>
      have q3 : (x0 == [112, 114, 105, 99, 101]) = false := by rw [beq_iff_eq] at q2; rw [q2]; rfl
      go_enter Tryz.func43, Tryz.ntmps43
      go_wp2_with fail
      go_ret
      exact ⟨ret_text (a := whatT) (by rw [HT.out]), by rw [HT.out]; exact HD.out, gr_refl _ _⟩
    | false =>
      cases q3 : (x0 == [112, 114, 105, 99, 101]) with
      | true => go_enter Tryz.func43, Tryz.ntmps43
                go_wp2_with fail
                go_ret
                exact ⟨ret_text (a := whatT) (by rw [HT.out]), by rw [HT.out]; exact HD.out, gr_refl _ _⟩
      | false => go_enter Tryz.func43, Tryz.ntmps43
                 go_wp2_with fail
                 go_ret
                 exact ⟨ret_text (a := whatT) (by rw [HT.out]), by rw [HT.out]; exact HD.out, gr_refl _ _⟩
end Go.Proofs.YtielicmjdhmcjaaGreatDoor

/- Packed: DeskS. -/
import Derived.Test.YtielicmjdhmcjaaGreatDoorRows
import Derived.Test.YtielicmjdhmcjaaGreatDoorPk29
/- A trade appended to the reference's desk. -/
namespace Go.Proofs.YtielicmjdhmcjaaGreatDoor
open Go.RowKit

theorem step_append_copy {P : Program} {ops : Array Oper} {o : Oper} {a : Act} {w : World} {K : Act → World → Prop} {Q : Exit → Act → World → Prop} {E : Prop}
    (hg : o.guard = none) (s x : Operand) (t : TypeId) (hop : o.op = Op.call { callee := Callee.builtin Builtin.append, args := #[s, x], argTypes := #[t, t] })
    (base : Nat) (e : TypeId) (i : TypeInfo) (z : Value) (size bytes : Nat) (h1 : P.underlying t = some (.slice e)) (h2 : P.info? e = some i) (h3 : i.zero = some z) (h4 : i.size = size) (h5 : i.bytes = bytes) (h6 : z.cells.size = size) (h7 : 0 < size)
    (EB : Nat) (hs : a.eval s = .slice (some ⟨EB, 0, none⟩) 0 0) (hown : w.ownsRow base e size (.slice (some ⟨EB, 0, none⟩) 0 0) 0 [])
    (ao : Option Addr) (n cap : Nat) (cells : List Value) (hx : a.eval x = .slice ao n cap) (hnil : ao = none → n = 0 ∧ cap = 0) (hl : cells.length = n * size) (hc : ∀ ad, ao = some ad → ∀ j u, cells[j]? = some u → w.cell? (ad.add j) = some u) (h1c : ∀ u ∈ cells, u.oneCell' = true)
    (b1 : n ≤ maxLen) (b2 : n * bytes ≤ 140737488355328) (hb : base ≤ w.heap.size)
    (hK : ∀ v' w', w'.ownsRow base e size v' n cells → w.grownBy w' (some EB) → K (a.put o.dst v') w') :
    if Region.wanted o (yielded ops a.tmps) = true then Oper.wp P o a w K Q else E := by
  cases ao with
  | none =>
    obtain ⟨rfl, rfl⟩ := hnil rfl
    obtain rfl : cells = [] := List.eq_nil_of_length_eq_zero (by simpa using hl)
    exact step_append_nil hg s x t hop e i h1 h2 ⟨EB, 0, none⟩ hs hx (hK _ _ hown (gr_refl _ _))
  | some ad =>
    have hw : Region.wanted o (yielded ops a.tmps) = true := by simp [Region.wanted, hg]
    rw [if_pos hw]
    refine wp_append_own w s x t hop base e i z size bytes h1 h2 h3 h4 h5 h6 h7 _ 0 [] hs hown ad n cap cells hx hl (hc ad rfl) h1c (by rw [Nat.zero_add]; exact b1) (by rw [Nat.zero_add]; exact b2) hb ?_
    intro v' w' k1 k2 _
    rw [List.nil_append, Nat.zero_add] at k1
    exact hK v' w' k1 k2

set_option maxRecDepth 100000 in
set_option maxHeartbeats 4000000 in
theorem spectrade_any (sb : Nat) (s : Desk) (m p : Int) (w : World) (hd : DeskAt 53 w sb s) (hok : OkDesk s) :
    Calls Tryz.prog 70 #[.pointer (some ⟨sb, 0, none⟩), .int .i64 m, .int .i64 p] w fun e w' => e = .returned (.string ⟨((tradeD s m p).2).toArray⟩) ∧ DeskAt 53 w' sb (tradeD s m p).1 ∧ w.grownBy w' (some sb) := by
  obtain ⟨i0, hi, hz0, hz1, hz2⟩ := infoPtsD infoTradeD
  obtain ⟨a, n, cap, hd⟩ := hd
  have HD := hid hd
  have hn16 : n ≤ 16 := by have := trades_len hok.tr; have := hd.s.len; omega
  have c4 := blk_cell hd.c 4 _ rfl
  have c5 := blk_cell hd.c 5 _ rfl
  clear hd hok
  go_enter Tryz.func70, Tryz.ntmps70
  go_wp2_with fail
  refine wp_region_held_drew (S := fun w' => w.grownBy w' none) (by kernel_rfl) (gr_drew (gr0 _)) (fun hHeld => ?_)
  refine wpAnyH_take (i := 1) (v := ?_) rfl (by kernel_rfl) (by kernel_rfl) (by kernel_rfl) (fun _ _ _ h => h) (Or.inl ⟨by rfl, ?_⟩) hHeld ?_
  rotate_left
  · intro w9 hSw
    (have c4 := blk_cell (blk_keep HD.out.c hSw (by simp)) 4 _ rfl; have c5 := blk_cell (blk_keep HD.out.c hSw (by simp)) 5 _ rfl; clear hSw)
    go_simp
    all_goals (try with_reducible rfl)
  (try simp only [Act.put, gA, gB, gC, gD, gE, gF])
  refine wpAnyH_take (i := 2) (v := ?_) rfl (by kernel_rfl) (by kernel_rfl) (by kernel_rfl) (fun _ _ _ h => h) (Or.inl ⟨by rfl, ?_⟩) hHeld ?_
  rotate_left
  · intro w9 hSw
    (have c4 := blk_cell (blk_keep HD.out.c hSw (by simp)) 4 _ rfl; have c5 := blk_cell (blk_keep HD.out.c hSw (by simp)) 5 _ rfl; clear hSw)
    go_simp
    all_goals (try with_reducible rfl)
  (try simp only [Act.put, gA, gB, gC, gD, gE, gF])
  refine wpAnyH_take (i := 3) (v := ?_) rfl (by kernel_rfl) (by kernel_rfl) (by kernel_rfl) (fun _ _ _ h => h) (Or.inl ⟨by rfl, ?_⟩) hHeld ?_
  rotate_left
  · intro w9 hSw
    (have c4 := blk_cell (blk_keep HD.out.c hSw (by simp)) 4 _ rfl; have c5 := blk_cell (blk_keep HD.out.c hSw (by simp)) 5 _ rfl; clear hSw)
    go_simp
    all_goals (try with_reducible rfl)
  (try simp only [Act.put, gA, gB, gC, gD, gE, gF])
  refine wpAnyH_take (i := 4) (v := ?_) rfl (by kernel_rfl) (by kernel_rfl) (by kernel_rfl) (fun _ _ _ h => h) (Or.inl ⟨by rfl, ?_⟩) hHeld ?_
  rotate_left
  · intro w9 hSw
    (have c4 := blk_cell (blk_keep HD.out.c hSw (by simp)) 4 _ rfl; have c5 := blk_cell (blk_keep HD.out.c hSw (by simp)) 5 _ rfl; clear hSw)
    go_simp
    all_goals (try with_reducible rfl)
  (try simp only [Act.put, gA, gB, gC, gD, gE, gF])
  refine wpAnyH_take (i := 6) (v := ?_) rfl (by kernel_rfl) (by kernel_rfl) (by kernel_rfl) (fun _ _ _ h => h) (Or.inl ⟨by rfl, ?_⟩) hHeld ?_
  rotate_left
  · intro w9 hSw
    (have c4 := blk_cell (blk_keep HD.out.c hSw (by simp)) 4 _ rfl; have c5 := blk_cell (blk_keep HD.out.c hSw (by simp)) 5 _ rfl; clear hSw)
    go_simp
    all_goals (try with_reducible rfl)
  (try simp only [Act.put, gA, gB, gC, gD, gE, gF])
  refine wpAnyH_take (i := 7) (v := ?_) rfl (by kernel_rfl) (by kernel_rfl) (by kernel_rfl) (fun _ _ _ h => h) (Or.inl ⟨by rfl, ?_⟩) hHeld ?_
  rotate_left
  · intro w9 hSw
    (have c4 := blk_cell (blk_keep HD.out.c hSw (by simp)) 4 _ rfl; have c5 := blk_cell (blk_keep HD.out.c hSw (by simp)) 5 _ rfl; clear hSw)
    go_simp
    all_goals (try with_reducible rfl)
  (try simp only [Act.put, gA, gB, gC, gD, gE, gF])
  refine wpAnyH_take (i := 8) (v := ?_) rfl (by kernel_rfl) (by kernel_rfl) (by kernel_rfl) (fun _ _ _ h => h) (Or.inl ⟨by rfl, ?_⟩) hHeld ?_
  rotate_left
  · intro w9 hSw
    (have c4 := blk_cell (blk_keep HD.out.c hSw (by simp)) 4 _ rfl; have c5 := blk_cell (blk_keep HD.out.c hSw (by simp)) 5 _ rfl; clear hSw)
    go_simp
    all_goals (try with_reducible rfl)
  (try simp only [Act.put, gA, gB, gC, gD, gE, gF])
  refine wpAnyH_take (i := 9) (v := ?_) rfl (by kernel_rfl) (by kernel_rfl) (by kernel_rfl) (fun _ _ _ h => h) (Or.inl ⟨by rfl, ?_⟩) hHeld ?_
  rotate_left
  · intro w9 hSw
    (have c4 := blk_cell (blk_keep HD.out.c hSw (by simp)) 4 _ rfl; have c5 := blk_cell (blk_keep HD.out.c hSw (by simp)) 5 _ rfl; clear hSw)
    go_simp
    all_goals (try with_reducible rfl)
  (try simp only [Act.put, gA, gB, gC, gD, gE, gF])
  refine wpAnyH_take (i := 10) (v := ?_) rfl (by kernel_rfl) (by kernel_rfl) (by kernel_rfl) (fun _ _ _ h => h) (Or.inl ⟨by rfl, ?_⟩) hHeld ?_
  rotate_left
  · intro w9 hSw
    (have c4 := blk_cell (blk_keep HD.out.c hSw (by simp)) 4 _ rfl; have c5 := blk_cell (blk_keep HD.out.c hSw (by simp)) 5 _ rfl; clear hSw)
    go_simp
    all_goals (try with_reducible rfl)
  (try simp only [Act.put, gA, gB, gC, gD, gE, gF])
  refine wpAnyH_take (i := 11) (v := ?_) rfl (by kernel_rfl) (by kernel_rfl) (by kernel_rfl) (fun _ _ _ h => h) (Or.inl ⟨by rfl, ?_⟩) hHeld ?_
  rotate_left
  · intro w9 hSw
    (have c4 := blk_cell (blk_keep HD.out.c hSw (by simp)) 4 _ rfl; have c5 := blk_cell (blk_keep HD.out.c hSw (by simp)) 5 _ rfl; clear hSw)
    go_simp
    all_goals (try with_reducible rfl)
  (try simp only [Act.put, gA, gB, gC, gD, gE, gF])
  refine wpAnyH_take (i := 12) (v := ?_) rfl (by kernel_rfl) (by kernel_rfl) (by kernel_rfl) (fun _ _ _ h => h) (Or.inl ⟨by rfl, ?_⟩) hHeld ?_
  rotate_left
  · intro w9 hSw
    (have c4 := blk_cell (blk_keep HD.out.c hSw (by simp)) 4 _ rfl; have c5 := blk_cell (blk_keep HD.out.c hSw (by simp)) 5 _ rfl; clear hSw)
    go_simp
    all_goals (try with_reducible rfl)
  (try simp only [Act.put, gA, gB, gC, gD, gE, gF])
  refine wpAnyH_ready (rs := [0, 13]) (by kernel_rfl) (by simp) ?_
  refine AllReadyH.cons rfl (fun K' hK' => ?_) (AllReadyH.cons rfl (fun K' hK' => ?_) AllReadyH.nil)
  · go_simp
    (try simp only [])
    refine hK'.out _ _ (gr_alloc hHeld _) (fun hHeldN => ?_)
    clear hK' K' hHeld
    have hHeld := hHeldN
    clear hHeldN
    (try simp only [Act.put, gA, gB, gC, gD, gE, gF])
    have hE : ((w.alloc (.cells #[] 98)).drew).ownsRow w.heap.size 98 3 (.slice (some ⟨w.heap.size, 0, none⟩) 0 0) 0 [] := World.ownsRow_made w #[] 0 (Nat.le_refl _) (by decide) rfl
    refine wpAnyH_ready (rs := [5, 13]) (by kernel_rfl) (by simp) ?_
    refine AllReadyH.cons rfl (fun K' hK' => ?_) (AllReadyH.cons rfl (fun K' hK' => ?_) AllReadyH.nil)
    · refine step_append_copy (by rfl) _ _ 38 (by rfl) w.heap.size 98 i0 _ 3 24 Tryz.underlying38 hi hz0 hz1 hz2 (by rfl) (by decide) w.heap.size (by rfl) (hE) a n cap (s.trades.flatMap tradeL.cells) (by rfl) HD.out.nil (by rw [flat_len, HD.out.s.len]; rfl) (fun ad e => by have h9 := (HD.out.keep hHeld).s; rw [e] at h9; exact trade_cells h9) (trade_one _) (by unfold maxLen; omega) (by omega) (gr_le hHeld) ?_
      intro v wc hown hg
      have hHg := gr_own hHeld hg (fun g e => by cases e; simp)
      (try simp only [])
      refine hK'.out _ _ hHg (fun hHeldN => ?_)
      clear hK' K' hHeld
      have hHeld := hHeldN
      clear hHeldN
      (try simp only [Act.put, gA, gB, gC, gD, gE, gF])
      refine wpAnyH_ready (rs := [13]) (by kernel_rfl) (by simp) ?_
      refine AllReadyH.cons rfl (fun K' hK' => ?_) AllReadyH.nil
      go_simp
      (try simp only [])
      refine hK'.out _ _ (gr_alloc hHeld _) (fun hHeldN => ?_)
      clear hK' K' hHeld
      have hHeld := hHeldN
      clear hHeldN
      (try simp only [Act.put, gA, gB, gC, gD, gE, gF])
      refine wpAnyH_ready (rs := [14]) (by kernel_rfl) (by simp) ?_
      refine AllReadyH.cons rfl (fun K' hK' => ?_) AllReadyH.nil
      refine step_append_lies _ (by rfl) _ _ _ (by rfl) w.heap.size 98 i0 _ 3 24 Tryz.underlying38 hi hz0 hz1 hz2 (by rfl) (by decide) v n _ (by rfl) (hown.alloc _) ⟨wc.heap.size, 0, none⟩ 1 1 [.int .i64 s.day, .int .i64 m, .int .i64 p] (by rfl) (by rfl) (cells_new wc _ _ _ rfl) (by simp [Value.oneCell']) (by decide) (by unfold maxLen; omega) (by omega) (by have h9 := hg.size; simp at h9 ⊢; omega) _ rfl ?_
      intro g9 c9 w9 hown9 hgo9 _ _
      have hg9 : w.grownBy w9 none := gr_own hHeld hgo9 (fun x e => ((hown.lt x e).1))
      obtain ⟨hc2, ho2, cs9, fz9, hty9⟩ := trade_list (by omega) hown9 HD.out.s.len
      have HTY := hid hty9
      have HO := hid (ho2.mono (base' := w.heap.size) (Nat.le_refl _))
      (try simp only [])
      refine hK'.out _ _ hg9 (fun hHeldN => ?_)
      clear hK' K' hHeld
      have hHeld := hHeldN
      clear hHeldN
      (try simp only [Act.put, gA, gB, gC, gD, gE, gF])
      refine wpAnyH_take (i := 15) (v := ?_) rfl (by kernel_rfl) (by kernel_rfl) (by kernel_rfl) (fun _ _ _ h => h) (Or.inl ⟨by rfl, ?_⟩) hHeld ?_
      rotate_left
      · intro w9 hSw
        clear hSw
        go_simp
        all_goals (try with_reducible rfl)
      (try simp only [Act.put, gA, gB, gC, gD, gE, gF])
      refine wpAnyH_done (by kernel_rfl) ?_ _
      have HG := hid hg9
      clear hHeld hown9 hgo9 hg9 ho2 hty9
      have HD9 := hid (HD.out.keep HG.out)
      have hsb := blk_lt HD.out.c
      have HV := hid (specvalidTrades_any (some ⟨g9, 0, none⟩) (n + 1) c9 (s.trades ++ [⟨s.day, m, p⟩]) w9 HO.out.sl)
      cases htb : tradesB (s.trades ++ [⟨s.day, m, p⟩]) with
      | false =>
        have HT := hid (show tradeD s m p = (s, noT) by unfold tradeD; rw [htb]; rfl)
        rw [htb] at HV
        clear htb
        go_wp2_with fail
        refine HV.out.mono ?_
        rintro e w10 ⟨rfl, hg⟩
        have HG2 := hid (gr_trans0 HG.out hg)
        have HD10 := hid (HD9.out.keep hg)
        clear hg
        go_wp2_with fail
        go_ret
        exact ⟨by rw [HT.out]; rfl, by rw [HT.out]; exact ⟨_, _, _, HD10.out⟩, gr_any HG2.out _⟩
      | true =>
        have HT := hid (show tradeD s m p = (⟨s.bond, s.day, s.trades ++ [⟨s.day, m, p⟩]⟩, okT) by unfold tradeD; rw [if_pos htb])
        rw [htb] at HV
        clear htb
        go_wp2_with fail
        refine HV.out.mono ?_
        rintro e w10 ⟨rfl, hg⟩
        have HG2 := hid (gr_trans0 HG.out hg)
        have HD10 := hid (HD9.out.keep hg)
        have HO10 := hid (HO.out.keep0 hg)
        have HTY10 := hid (blk_keep HTY.out hg (by simp))
        clear hg
        have c5 := blk_cell HD10.out.c 5 _ rfl
        have f5 := blk_frozen HD10.out.c 5
        go_wp2_with fail
        go_ret
        refine ⟨by rw [HT.out]; rfl, ?_, gr_setCell (gr_any HG2.out (some sb)) (.inl rfl) _⟩
        rw [HT.out]
        refine ⟨_, _, _, HD10.out.setTrades HO10.out.sl hc2 (fun e => by cases e) (fun h0 b off e => ?_) (fun b off e => by cases e; exact ⟨_, _, HTY10.out⟩)⟩
        obtain ⟨b9, off9, e9, hb9, _⟩ := HO10.out.mem h0
        rw [e] at e9; cases e9
        omega
    · go_simp
      (try simp only [])
      refine hK'.out _ _ (gr_alloc hHeld _) (fun hHeldN => ?_)
      clear hK' K' hHeld
      have hHeld := hHeldN
      clear hHeldN
      (try simp only [Act.put, gA, gB, gC, gD, gE, gF])
      have hE2 : (((w.alloc (.cells #[] 98)).alloc (Obj.cells #[.int .i64 s.day, .int .i64 m, .int .i64 p] 98)).drew).ownsRow w.heap.size 98 3 (.slice (some ⟨w.heap.size, 0, none⟩) 0 0) 0 [] := World.ownsRow.alloc hE _
      have hnew0 := cells_new (w.alloc (.cells #[] 98)) [.int .i64 s.day, .int .i64 m, .int .i64 p] 98 (w.heap.size + 1) (by simp)
      refine wpAnyH_ready (rs := [5]) (by kernel_rfl) (by simp) ?_
      refine AllReadyH.cons rfl (fun K' hK' => ?_) AllReadyH.nil
      refine step_append_copy (by rfl) _ _ 38 (by rfl) w.heap.size 98 i0 _ 3 24 Tryz.underlying38 hi hz0 hz1 hz2 (by rfl) (by decide) w.heap.size (by rfl) (hE2) a n cap (s.trades.flatMap tradeL.cells) (by rfl) HD.out.nil (by rw [flat_len, HD.out.s.len]; rfl) (fun ad e => by have h9 := (HD.out.keep hHeld).s; rw [e] at h9; exact trade_cells h9) (trade_one _) (by unfold maxLen; omega) (by omega) (gr_le hHeld) ?_
      intro v wc hown hg
      have hHg := gr_own hHeld hg (fun g e => by cases e; simp)
      (try simp only [])
      refine hK'.out _ _ hHg (fun hHeldN => ?_)
      clear hK' K' hHeld
      have hHeld := hHeldN
      clear hHeldN
      (try simp only [Act.put, gA, gB, gC, gD, gE, gF])
      have hnew : ∀ (j : Nat) (u : Value), [Value.int .i64 s.day, .int .i64 m, .int .i64 p][j]? = some u → wc.cell? ((⟨w.heap.size + 1, 0, none⟩ : Addr).add j) = some u := fun j u h => by
        have h9 := hnew0 j u h
        rw [Addr.add_lit] at h9 ⊢
        exact hg.cell h9 (by simp)
      refine wpAnyH_ready (rs := [14]) (by kernel_rfl) (by simp) ?_
      refine AllReadyH.cons rfl (fun K' hK' => ?_) AllReadyH.nil
      refine step_append_lies _ (by rfl) _ _ _ (by rfl) w.heap.size 98 i0 _ 3 24 Tryz.underlying38 hi hz0 hz1 hz2 (by rfl) (by decide) v n _ (by rfl) (hown) ⟨(w.heap.size + 1), 0, none⟩ 1 1 [.int .i64 s.day, .int .i64 m, .int .i64 p] (by rfl) (by rfl) (hnew) (by simp [Value.oneCell']) (by decide) (by unfold maxLen; omega) (by omega) (by have h9 := hg.size; simp at h9 ⊢; omega) _ rfl ?_
      intro g9 c9 w9 hown9 hgo9 _ _
      have hg9 : w.grownBy w9 none := gr_own hHeld hgo9 (fun x e => ((hown.lt x e).1))
      obtain ⟨hc2, ho2, cs9, fz9, hty9⟩ := trade_list (by omega) hown9 HD.out.s.len
      have HTY := hid hty9
      have HO := hid (ho2.mono (base' := w.heap.size) (Nat.le_refl _))
      (try simp only [])
      refine hK'.out _ _ hg9 (fun hHeldN => ?_)
      clear hK' K' hHeld
      have hHeld := hHeldN
      clear hHeldN
      (try simp only [Act.put, gA, gB, gC, gD, gE, gF])
      refine wpAnyH_take (i := 15) (v := ?_) rfl (by kernel_rfl) (by kernel_rfl) (by kernel_rfl) (fun _ _ _ h => h) (Or.inl ⟨by rfl, ?_⟩) hHeld ?_
      rotate_left
      · intro w9 hSw
        clear hSw
        go_simp
        all_goals (try with_reducible rfl)
      (try simp only [Act.put, gA, gB, gC, gD, gE, gF])
      refine wpAnyH_done (by kernel_rfl) ?_ _
      have HG := hid hg9
      clear hHeld hown9 hgo9 hg9 ho2 hty9
      have HD9 := hid (HD.out.keep HG.out)
      have hsb := blk_lt HD.out.c
      have HV := hid (specvalidTrades_any (some ⟨g9, 0, none⟩) (n + 1) c9 (s.trades ++ [⟨s.day, m, p⟩]) w9 HO.out.sl)
      cases htb : tradesB (s.trades ++ [⟨s.day, m, p⟩]) with
      | false =>
        have HT := hid (show tradeD s m p = (s, noT) by unfold tradeD; rw [htb]; rfl)
        rw [htb] at HV
        clear htb
        go_wp2_with fail
        refine HV.out.mono ?_
        rintro e w10 ⟨rfl, hg⟩
        have HG2 := hid (gr_trans0 HG.out hg)
        have HD10 := hid (HD9.out.keep hg)
        clear hg
        go_wp2_with fail
        go_ret
        exact ⟨by rw [HT.out]; rfl, by rw [HT.out]; exact ⟨_, _, _, HD10.out⟩, gr_any HG2.out _⟩
      | true =>
        have HT := hid (show tradeD s m p = (⟨s.bond, s.day, s.trades ++ [⟨s.day, m, p⟩]⟩, okT) by unfold tradeD; rw [if_pos htb])
        rw [htb] at HV
        clear htb
        go_wp2_with fail
        refine HV.out.mono ?_
        rintro e w10 ⟨rfl, hg⟩
        have HG2 := hid (gr_trans0 HG.out hg)
        have HD10 := hid (HD9.out.keep hg)
        have HO10 := hid (HO.out.keep0 hg)
        have HTY10 := hid (blk_keep HTY.out hg (by simp))
        clear hg
        have c5 := blk_cell HD10.out.c 5 _ rfl
        have f5 := blk_frozen HD10.out.c 5
        go_wp2_with fail
        go_ret
        refine ⟨by rw [HT.out]; rfl, ?_, gr_setCell (gr_any HG2.out (some sb)) (.inl rfl) _⟩
        rw [HT.out]
        refine ⟨_, _, _, HD10.out.setTrades HO10.out.sl hc2 (fun e => by cases e) (fun h0 b off e => ?_) (fun b off e => by cases e; exact ⟨_, _, HTY10.out⟩)⟩
        obtain ⟨b9, off9, e9, hb9, _⟩ := HO10.out.mem h0
        rw [e] at e9; cases e9
        omega
  · go_simp
    (try simp only [])
    refine hK'.out _ _ (gr_alloc hHeld _) (fun hHeldN => ?_)
    clear hK' K' hHeld
    have hHeld := hHeldN
    clear hHeldN
    (try simp only [Act.put, gA, gB, gC, gD, gE, gF])
    have hnew0 := cells_new w [.int .i64 s.day, .int .i64 m, .int .i64 p] 98 w.heap.size rfl
    refine wpAnyH_ready (rs := [0]) (by kernel_rfl) (by simp) ?_
    refine AllReadyH.cons rfl (fun K' hK' => ?_) AllReadyH.nil
    go_simp
    (try simp only [])
    refine hK'.out _ _ (gr_alloc hHeld _) (fun hHeldN => ?_)
    clear hK' K' hHeld
    have hHeld := hHeldN
    clear hHeldN
    (try simp only [Act.put, gA, gB, gC, gD, gE, gF])
    have hE : (((w.alloc (Obj.cells #[.int .i64 s.day, .int .i64 m, .int .i64 p] 98)).alloc (.cells #[] 98)).drew).ownsRow w.heap.size 98 3 (.slice (some ⟨w.heap.size + 1, 0, none⟩) 0 0) 0 [] := by
      have h9 := World.ownsRow_made (base := w.heap.size) (size := 3) (e := 98) (w.alloc (Obj.cells #[.int .i64 s.day, .int .i64 m, .int .i64 p] 98)) #[] 0 (by simp) (by decide) rfl
      have h10 : ((w.alloc (Obj.cells #[.int .i64 s.day, .int .i64 m, .int .i64 p] 98)).alloc (.cells #[] 98)).ownsRow w.heap.size 98 3 (.slice (some ⟨w.heap.size + 1, 0, none⟩) 0 0) 0 [] := by simpa using h9
      exact h10
    refine wpAnyH_ready (rs := [5]) (by kernel_rfl) (by simp) ?_
    refine AllReadyH.cons rfl (fun K' hK' => ?_) AllReadyH.nil
    refine step_append_copy (by rfl) _ _ 38 (by rfl) w.heap.size 98 i0 _ 3 24 Tryz.underlying38 hi hz0 hz1 hz2 (by rfl) (by decide) (w.heap.size + 1) (by rfl) (hE) a n cap (s.trades.flatMap tradeL.cells) (by rfl) HD.out.nil (by rw [flat_len, HD.out.s.len]; rfl) (fun ad e => by have h9 := (HD.out.keep hHeld).s; rw [e] at h9; exact trade_cells h9) (trade_one _) (by unfold maxLen; omega) (by omega) (gr_le hHeld) ?_
    intro v wc hown hg
    have hHg := gr_own hHeld hg (fun g e => by cases e; simp)
    (try simp only [])
    refine hK'.out _ _ hHg (fun hHeldN => ?_)
    clear hK' K' hHeld
    have hHeld := hHeldN
    clear hHeldN
    (try simp only [Act.put, gA, gB, gC, gD, gE, gF])
    have hnew : ∀ (j : Nat) (u : Value), [Value.int .i64 s.day, .int .i64 m, .int .i64 p][j]? = some u → wc.cell? ((⟨w.heap.size, 0, none⟩ : Addr).add j) = some u := fun j u h => by
      have h9 := (gr_alloc (gr0 (w.alloc (Obj.cells #[.int .i64 s.day, .int .i64 m, .int .i64 p] 98))) (.cells #[] 98)).cell (hnew0 j u h) (by simp)
      rw [Addr.add_lit] at h9 ⊢
      exact hg.cell h9 (by simp)
    refine wpAnyH_ready (rs := [14]) (by kernel_rfl) (by simp) ?_
    refine AllReadyH.cons rfl (fun K' hK' => ?_) AllReadyH.nil
    refine step_append_lies _ (by rfl) _ _ _ (by rfl) w.heap.size 98 i0 _ 3 24 Tryz.underlying38 hi hz0 hz1 hz2 (by rfl) (by decide) v n _ (by rfl) (hown) ⟨w.heap.size, 0, none⟩ 1 1 [.int .i64 s.day, .int .i64 m, .int .i64 p] (by rfl) (by rfl) (hnew) (by simp [Value.oneCell']) (by decide) (by unfold maxLen; omega) (by omega) (by have h9 := hg.size; simp at h9 ⊢; omega) _ rfl ?_
    intro g9 c9 w9 hown9 hgo9 _ _
    have hg9 : w.grownBy w9 none := gr_own hHeld hgo9 (fun x e => ((hown.lt x e).1))
    obtain ⟨hc2, ho2, cs9, fz9, hty9⟩ := trade_list (by omega) hown9 HD.out.s.len
    have HTY := hid hty9
    have HO := hid (ho2.mono (base' := w.heap.size) (Nat.le_refl _))
    (try simp only [])
    refine hK'.out _ _ hg9 (fun hHeldN => ?_)
    clear hK' K' hHeld
    have hHeld := hHeldN
    clear hHeldN
    (try simp only [Act.put, gA, gB, gC, gD, gE, gF])
    refine wpAnyH_take (i := 15) (v := ?_) rfl (by kernel_rfl) (by kernel_rfl) (by kernel_rfl) (fun _ _ _ h => h) (Or.inl ⟨by rfl, ?_⟩) hHeld ?_
    rotate_left
    · intro w9 hSw
      clear hSw
      go_simp
      all_goals (try with_reducible rfl)
    (try simp only [Act.put, gA, gB, gC, gD, gE, gF])
    refine wpAnyH_done (by kernel_rfl) ?_ _
    have HG := hid hg9
    clear hHeld hown9 hgo9 hg9 ho2 hty9
    have HD9 := hid (HD.out.keep HG.out)
    have hsb := blk_lt HD.out.c
    have HV := hid (specvalidTrades_any (some ⟨g9, 0, none⟩) (n + 1) c9 (s.trades ++ [⟨s.day, m, p⟩]) w9 HO.out.sl)
    cases htb : tradesB (s.trades ++ [⟨s.day, m, p⟩]) with
    | false =>
      have HT := hid (show tradeD s m p = (s, noT) by unfold tradeD; rw [htb]; rfl)
      rw [htb] at HV
      clear htb
      go_wp2_with fail
      refine HV.out.mono ?_
      rintro e w10 ⟨rfl, hg⟩
      have HG2 := hid (gr_trans0 HG.out hg)
      have HD10 := hid (HD9.out.keep hg)
      clear hg
      go_wp2_with fail
      go_ret
      exact ⟨by rw [HT.out]; rfl, by rw [HT.out]; exact ⟨_, _, _, HD10.out⟩, gr_any HG2.out _⟩
    | true =>
      have HT := hid (show tradeD s m p = (⟨s.bond, s.day, s.trades ++ [⟨s.day, m, p⟩]⟩, okT) by unfold tradeD; rw [if_pos htb])
      rw [htb] at HV
      clear htb
      go_wp2_with fail
      refine HV.out.mono ?_
      rintro e w10 ⟨rfl, hg⟩
      have HG2 := hid (gr_trans0 HG.out hg)
      have HD10 := hid (HD9.out.keep hg)
      have HO10 := hid (HO.out.keep0 hg)
      have HTY10 := hid (blk_keep HTY.out hg (by simp))
      clear hg
      have c5 := blk_cell HD10.out.c 5 _ rfl
      have f5 := blk_frozen HD10.out.c 5
      go_wp2_with fail
      go_ret
      refine ⟨by rw [HT.out]; rfl, ?_, gr_setCell (gr_any HG2.out (some sb)) (.inl rfl) _⟩
      rw [HT.out]
      refine ⟨_, _, _, HD10.out.setTrades HO10.out.sl hc2 (fun e => by cases e) (fun h0 b off e => ?_) (fun b off e => by cases e; exact ⟨_, _, HTY10.out⟩)⟩
      obtain ⟨b9, off9, e9, hb9, _⟩ := HO10.out.mem h0
      rw [e] at e9; cases e9
      omega
end Go.Proofs.YtielicmjdhmcjaaGreatDoor

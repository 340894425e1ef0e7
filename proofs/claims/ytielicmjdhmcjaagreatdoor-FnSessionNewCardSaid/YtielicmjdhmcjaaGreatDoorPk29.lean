/- Packed: Desk. -/
import Derived.Test.YtielicmjdhmcjaaGreatDoorRows
import Derived.Test.YtielicmjdhmcjaaGreatDoorPk28
import Derived.Test.YtielicmjdhmcjaaGreatDoorPk22
import Derived.OwnWalk
import Derived.Deep.RegionLaw
/- The desk of the program and of the reference in memory; a trade appended. -/
namespace Go.Proofs.YtielicmjdhmcjaaGreatDoor
open Go.RowKit

structure DeskIn (T : Nat) (w : World) (sb : Nat) (s : Desk) (a : Option Addr) (n cap : Nat) : Prop where
  c : w.heap[sb]? = some (Obj.cells #[.int .i64 s.bond.start, .int .i64 s.bond.stop, .int .i64 s.bond.months, .int .i64 s.bond.rate, .int .i64 s.day, .slice a n cap] T (0, 0))
  s : Sl tradeL w a n s.trades
  nc : n ≤ cap
  nil : a = none → n = 0 ∧ cap = 0
  ne : 0 < n → ∀ b off, a = some ⟨b, off, none⟩ → b ≠ sb
  ty : ∀ b off, a = some ⟨b, off, none⟩ → ∃ cs fz, w.heap[b]? = some (.cells cs 98 fz)
theorem ty_set {w : World} {b : Nat} {e : TypeId} (h : ∃ cs fz, w.heap[b]? = some (.cells cs e fz)) (c o : Nat) (v : Value) : ∃ cs fz, (w.setCell ⟨c, o, none⟩ v).heap[b]? = some (.cells cs e fz) := by
  obtain ⟨cs, fz, h⟩ := h
  by_cases hc : c = b
  · subst hc; exact ⟨_, _, blk_set h o v⟩
  · exact ⟨_, _, blk_set_other h _ hc v⟩
def DeskAt (T : Nat) (w : World) (sb : Nat) (s : Desk) : Prop := ∃ a n cap, DeskIn T w sb s a n cap
theorem DeskIn.keep {T : Nat} {w w' : World} {sb : Nat} {s : Desk} {a : Option Addr} {n cap : Nat} (h : DeskIn T w sb s a n cap) (g : w.grownBy w' none) : DeskIn T w' sb s a n cap :=
  ⟨blk_keep h.c g (by simp), h.s.keep0 g, h.nc, h.nil, h.ne, fun b off e => by
    obtain ⟨cs, fz, h9⟩ := h.ty b off e
    exact ⟨cs, fz, blk_keep h9 g (by simp)⟩⟩
theorem DeskAt.keep0 {T : Nat} {w w' : World} {sb : Nat} {s : Desk} (h : DeskAt T w sb s) (g : w.grownBy w' none) : DeskAt T w' sb s := by
  obtain ⟨a, n, cap, k⟩ := h
  exact ⟨a, n, cap, k.keep g⟩
theorem DeskAt.lt {T : Nat} {w : World} {sb : Nat} {s : Desk} (h : DeskAt T w sb s) : sb < w.heap.size := by
  obtain ⟨a, n, cap, k⟩ := h
  exact blk_lt k.c
theorem DeskIn.setTrades {T : Nat} {w : World} {sb : Nat} {s : Desk} {a : Option Addr} {n cap : Nat} (h : DeskIn T w sb s a n cap) {a2 : Option Addr} {n2 cap2 : Nat} {xs : List Trade} (hs : Sl tradeL w a2 n2 xs) (hc : n2 ≤ cap2) (hn : a2 = none → n2 = 0 ∧ cap2 = 0) (hne : 0 < n2 → ∀ b off, a2 = some ⟨b, off, none⟩ → b ≠ sb) (hty : ∀ b off, a2 = some ⟨b, off, none⟩ → ∃ cs fz, w.heap[b]? = some (.cells cs 98 fz)) :
    DeskIn T (w.setCell ⟨sb, 5, none⟩ (.slice a2 n2 cap2)) sb ⟨s.bond, s.day, xs⟩ a2 n2 cap2 :=
  ⟨(blk_set h.c 5 _).trans rfl, hs.keep (gr_setCell (r := some sb) (gr_refl _ _) (.inl rfl) _) (fun h0 b off e e2 => by cases e2; exact hne h0 _ _ e rfl), hc, hn, hne, fun b off e => ty_set (hty b off e) _ _ _⟩
theorem DeskIn.setDay {T : Nat} {w : World} {sb : Nat} {s : Desk} {a : Option Addr} {n cap : Nat} (h : DeskIn T w sb s a n cap) (d : Int) : DeskIn T (w.setCell ⟨sb, 4, none⟩ (.int .i64 d)) sb ⟨s.bond, d, s.trades⟩ a n cap :=
  ⟨(blk_set h.c 4 _).trans rfl, h.s.keep (gr_setCell (r := some sb) (gr_refl _ _) (.inl rfl) _) (fun h0 b off e e2 => by cases e2; exact h.ne h0 _ _ e rfl), h.nc, h.nil, h.ne, fun b off e => ty_set (h.ty b off e) _ _ _⟩
theorem DeskIn.setBond {T : Nat} {w : World} {sb : Nat} {s : Desk} {a : Option Addr} {n cap : Nat} (h : DeskIn T w sb s a n cap) (b : Bond) :
    DeskIn T ((((w.setCell ⟨sb, 0, none⟩ (.int .i64 b.start)).setCell ⟨sb, 1, none⟩ (.int .i64 b.stop)).setCell ⟨sb, 2, none⟩ (.int .i64 b.months)).setCell ⟨sb, 3, none⟩ (.int .i64 b.rate)) sb ⟨b, s.day, s.trades⟩ a n cap := by
  refine ⟨(blk_set (blk_set (blk_set (blk_set h.c 0 _) 1 _) 2 _) 3 _).trans rfl, ?_, h.nc, h.nil, h.ne, fun b off e => ty_set (ty_set (ty_set (ty_set (h.ty b off e) _ _ _) _ _ _) _ _ _) _ _ _⟩
  have k := fun (w1 : World) (o : Nat) (v : Value) (h1 : Sl tradeL w1 a n s.trades) => h1.keep (gr_setCell (w1 := w1) (p := ⟨sb, o, none⟩) (r := some sb) (gr_refl _ _) (.inl rfl) v) (fun h0 b off e e2 => by cases e2; exact h.ne h0 _ _ e rfl)
  exact k _ _ _ (k _ _ _ (k _ _ _ (k _ _ _ h.s)))

theorem infoTradeD : (Tryz.prog.info? 98).map (fun i => (i.zero, i.size, i.bytes)) = some (some (.agg #[.int .i64 0, .int .i64 0, .int .i64 0]), 3, 24) := by kernel_rfl
theorem infoPtsD {T : TypeId} {z : Value} {s y : Nat} (h : (Tryz.prog.info? T).map (fun i => (i.zero, i.size, i.bytes)) = some (some z, s, y)) : ∃ i, Tryz.prog.info? T = some i ∧ i.zero = some z ∧ i.size = s ∧ i.bytes = y := by
  cases hi : Tryz.prog.info? T with
  | none => rw [hi] at h; cases h
  | some i => rw [hi] at h; simp at h; exact ⟨i, rfl, h.1, h.2.1, h.2.2⟩
theorem trade_cells {w : World} {ad : Addr} {n : Nat} {xs : List Trade} (hs : Sl tradeL w (some ad) n xs) : ∀ (j : Nat) (u : Value), (xs.flatMap tradeL.cells)[j]? = some u → w.cell? (ad.add j) = some u := by
  intro j u hj
  have hjl := lt_of_at hj
  rw [flat_len, hs.len] at hjl
  have hjl : j < n * 3 := hjl
  obtain ⟨b, off, x, e, hx, _, hc⟩ := hs.at (j / 3) (by omega)
  cases e
  have hr : j % 3 < 3 := Nat.mod_lt _ (by decide)
  have hcell : ∃ c, (tradeL.cells x)[j % 3]? = some c := by
    have hl := tradeL.len x
    have hsz : tradeL.sz = 3 := rfl
    exact ⟨(tradeL.cells x)[j % 3]'(by omega), by simp⟩
  obtain ⟨c, hcc⟩ := hcell
  have hf := flat_at tradeL xs (j / 3) x hx (j % 3) c hcc
  have e1 : j / 3 * tradeL.sz + j % 3 = j := by show j / 3 * 3 + j % 3 = j; omega
  rw [e1, hj] at hf
  cases hf
  have := hc (j % 3) u hcc
  rw [e1] at this
  rw [Addr.add_lit]; exact this
theorem trade_one (xs : List Trade) : ∀ u ∈ xs.flatMap tradeL.cells, u.oneCell' = true := by
  intro u hu
  obtain ⟨x, _, hx⟩ := List.mem_flatMap.1 hu
  simp only [tradeL, List.mem_cons, List.not_mem_nil, or_false] at hx
  rcases hx with rfl | rfl | rfl <;> rfl

set_option maxRecDepth 100000 in
set_option maxHeartbeats 1000000 in
theorem CloneTrades_any (a : Option Addr) (n cap : Nat) (xs : List Trade) (w : World) (hs : Sl tradeL w a n xs) (hnil : a = none → n = 0 ∧ cap = 0) (hn : n ≤ 1000) :
    Calls Tryz.prog 85 #[.slice a n cap] w fun e w' => ∃ v, e = .returned v ∧ w'.ownsRow w.heap.size 98 3 v n (xs.flatMap tradeL.cells) ∧ w.grownBy w' none := by
  obtain ⟨i0, hi, hz0, hz1, hz2⟩ := infoPtsD infoTradeD
  have Hs := hid hs
  cases a with
  | none =>
    obtain ⟨rfl, rfl⟩ := hnil rfl
    have hx : xs = [] := List.eq_nil_of_length_eq_zero hs.len
    subst hx
    have he : ∀ w' : World, (binOp .eql 38 (.slice none 0 0) (.slice none 0 0)).run Tryz.prog w' = .ok (.bool true) w' := fun _ => rfl
    go_enter Tryz.func85, Tryz.ntmps85
    go_wp2_with fail
    go_ret
    exact ⟨_, rfl, World.ownsRow_nil _ _ _ _, gr0 _⟩
  | some ad =>
    clear hs hnil
    have hown : (w.alloc (.cells #[] 98)).ownsRow w.heap.size 98 3 (.slice (some ⟨w.heap.size, 0, none⟩) 0 0) 0 (([] : List Trade).flatMap tradeL.cells) := World.ownsRow_made w #[] 0 (Nat.le_refl _) (by decide) rfl
    have Hown := hid hown; clear hown
    have Hcell := hid (trade_cells (Hs.out.keep0 (gr_alloc (gr0 w) (Obj.cells #[] 98))))
    have Hl : Hid ((xs.flatMap tradeL.cells).length = n * 3) := hid (by rw [flat_len, Hs.out.len]; rfl)
    have H1 := hid (trade_one xs)
    have he : ∀ w' : World, (binOp .eql 38 (.slice (some ad) n cap) (.slice none 0 0)).run Tryz.prog w' = .ok (.bool false) w' := fun _ => rfl
    go_enter Tryz.func85, Tryz.ntmps85
    go_wp2_with (at_builtin; go_must (refine wpList_append_own _ rfl _ _ 38 rfl w.heap.size 98 i0 _ 3 24 Tryz.underlying38 hi hz0 hz1 hz2 rfl (by decide) _ _ _ rfl Hown.out ad n cap (xs.flatMap tradeL.cells) rfl Hl.out Hcell.out H1.out ?c3 ?c4 ?c5 ?_))
    case c3 => unfold maxLen; omega
    case c4 => omega
    case c5 => simp
    intro v' w2 hown2 hg2 _
    have Hown2 := hid hown2; clear hown2
    have Hg2 := hid (gr_append (gr_alloc (gr0 w) _) Hown.out (Nat.le_refl _) hg2)
    clear hg2
    go_wp2_with fail
    go_ret
    have hfin := Hown2.out
    (try rw [List.flatMap_nil, List.nil_append, Nat.zero_add] at hfin)
    exact ⟨v', rfl, hfin, Hg2.out⟩

theorem step_append_nil {P : Program} {ops : Array Oper} {o : Oper} {a : Act} {w : World} {K : Act → World → Prop} {Q : Exit → Act → World → Prop} {E : Prop}
    (hg : o.guard = none) (s x : Operand) (t : TypeId) (hop : o.op = Op.call { callee := Callee.builtin Builtin.append, args := #[s, x], argTypes := #[t, t] })
    (e : TypeId) (i : TypeInfo) (h1 : P.underlying t = some (.slice e)) (h2 : P.info? e = some i)
    (ad : Addr) (hs : a.eval s = .slice (some ad) 0 0) (hx : a.eval x = .slice none 0 0)
    (hK : K (a.put o.dst (.slice (some ad) 0 0)) w) :
    if Region.wanted o (yielded ops a.tmps) = true then Oper.wp P o a w K Q else E := by
  have hw : Region.wanted o (yielded ops a.tmps) = true := by simp [Region.wanted, hg]
  rw [if_pos hw]
  have hrun : (Builtin.append_ #[t, t] o.type #[.slice (some ad) 0 0, .slice none 0 0]).run P w = .ok (.slice (some ad) 0 0) w := by
    simp [Builtin.append_, run_underlying h1, sizeOf, typeInfo, h2, Builtin.lenOf, Builtin.firstCells, storeCells]
  unfold Oper.wp
  simp [execOp, hop, resolve, invoke, builtin, hs, hx, hrun, Result.andThen]
  exact hK

theorem trade_list {w : World} {base g c : Nat} {xs : List Trade} {n : Nat} {d m p : Int} (hn : n ≤ 1000) (h : w.ownsRow base 98 3 (.slice (some ⟨g, 0, none⟩) (n + 1) c) (n + 1) (xs.flatMap tradeL.cells ++ [.int .i64 d, .int .i64 m, .int .i64 p])) (hl : xs.length = n) :
    n + 1 ≤ c ∧ Ow tradeL w base (some ⟨g, 0, none⟩) (n + 1) (xs ++ [⟨d, m, p⟩]) ∧ ∃ cs fz, w.heap[g]? = some (.cells cs 98 fz) := by
  have h2 : w.ownsRow base 98 3 (.slice (some ⟨g, 0, none⟩) (n + 1) c) (n + 1) ((xs ++ [(⟨d, m, p⟩ : Trade)]).flatMap tradeL.cells) := by rw [List.flatMap_append]; exact h
  have h3 : n + 1 ≤ c ∧ ∃ cs fz, w.heap[g]? = some (.cells cs 98 fz) := by
    rcases h2.2 with ⟨e, _⟩ | ⟨g, cap, cur, e, _, hg, hc, _⟩
    · cases e
    · cases e; exact ⟨hc, _, _, hg⟩
  exact ⟨h3.1, Ow.of_own (L := tradeL) h2 (by simp [hl]) (by unfold maxLen; omega), h3.2⟩

set_option maxRecDepth 100000 in
set_option maxHeartbeats 4000000 in
theorem trade_any (sb : Nat) (s : Desk) (m p : Int) (w : World) (hd : DeskAt 40 w sb s) (hok : OkDesk s) :
    Calls Tryz.prog 53 #[.pointer (some ⟨sb, 0, none⟩), .int .i64 m, .int .i64 p] w fun e w' => e = .returned (.string ⟨((tradeD s m p).2).toArray⟩) ∧ DeskAt 40 w' sb (tradeD s m p).1 ∧ w.grownBy w' (some sb) := by
  obtain ⟨i0, hi, hz0, hz1, hz2⟩ := infoPtsD infoTradeD
  obtain ⟨a, n, cap, hd⟩ := hd
  have HD := hid hd
  have hn16 : n ≤ 16 := by have := trades_len hok.tr; have := hd.s.len; omega
  have HCl := hid (fun (wx : World) (hx : w.grownBy wx none) => CloneTrades_any a n cap s.trades wx (HD.out.s.keep0 hx) HD.out.nil (by omega))
  have c4 := blk_cell hd.c 4 _ rfl
  have c5 := blk_cell hd.c 5 _ rfl
  clear hd hok
  go_enter Tryz.func53, Tryz.ntmps53
  go_wp2_with fail
  refine wp_region_held_drew (S := fun w' => w.grownBy w' none) (by kernel_rfl) (gr_drew (gr0 _)) (fun hHeld => ?_)
  refine wpAnyH_take (i := 0) (v := ?_) rfl (by kernel_rfl) (by kernel_rfl) (by kernel_rfl) (fun _ _ _ h => h) (Or.inl ⟨by rfl, ?_⟩) hHeld ?_
  rotate_left
  · intro w9 hSw
    (have c4 := blk_cell (blk_keep HD.out.c hSw (by simp)) 4 _ rfl; have c5 := blk_cell (blk_keep HD.out.c hSw (by simp)) 5 _ rfl; clear hSw)
    go_simp
    all_goals (try with_reducible rfl)
  (try simp only [Act.put, gA, gC, gD, gE, gF])
  refine wpAnyH_take (i := 1) (v := ?_) rfl (by kernel_rfl) (by kernel_rfl) (by kernel_rfl) (fun _ _ _ h => h) (Or.inl ⟨by rfl, ?_⟩) hHeld ?_
  rotate_left
  · intro w9 hSw
    (have c4 := blk_cell (blk_keep HD.out.c hSw (by simp)) 4 _ rfl; have c5 := blk_cell (blk_keep HD.out.c hSw (by simp)) 5 _ rfl; clear hSw)
    go_simp
    all_goals (try with_reducible rfl)
  (try simp only [Act.put, gA, gB, gC, gD, gE, gF])
  refine wpAnyH_take (i := 2) (v := ?_) rfl (by kernel_rfl) (by kernel_rfl) (by kernel_rfl) (fun _ _ _ h => h) (Or.inl ⟨by rfl, ?_⟩) hHeld ?_
  rotate_left
  · intro w9 hSw
    (have c4 := blk_cell (blk_keep HD.out.c hSw (by simp)) 4 _ rfl; have c5 := blk_cell (blk_keep HD.out.c hSw (by simp)) 5 _ rfl; clear hSw)
    go_simp
    all_goals (try with_reducible rfl)
  (try simp only [Act.put, gA, gB, gC, gD, gE, gF])
  refine wpAnyH_take (i := 3) (v := ?_) rfl (by kernel_rfl) (by kernel_rfl) (by kernel_rfl) (fun _ _ _ h => h) (Or.inl ⟨by rfl, ?_⟩) hHeld ?_
  rotate_left
  · intro w9 hSw
    (have c4 := blk_cell (blk_keep HD.out.c hSw (by simp)) 4 _ rfl; have c5 := blk_cell (blk_keep HD.out.c hSw (by simp)) 5 _ rfl; clear hSw)
    go_simp
    all_goals (try with_reducible rfl)
  (try simp only [Act.put, gA, gB, gC, gD, gE, gF])
  refine wpAnyH_take (i := 5) (v := ?_) rfl (by kernel_rfl) (by kernel_rfl) (by kernel_rfl) (fun _ _ _ h => h) (Or.inl ⟨by rfl, ?_⟩) hHeld ?_
  rotate_left
  · intro w9 hSw
    (have c4 := blk_cell (blk_keep HD.out.c hSw (by simp)) 4 _ rfl; have c5 := blk_cell (blk_keep HD.out.c hSw (by simp)) 5 _ rfl; clear hSw)
    go_simp
    all_goals (try with_reducible rfl)
  (try simp only [Act.put, gA, gB, gC, gD, gE, gF])
  refine wpAnyH_take (i := 6) (v := ?_) rfl (by kernel_rfl) (by kernel_rfl) (by kernel_rfl) (fun _ _ _ h => h) (Or.inl ⟨by rfl, ?_⟩) hHeld ?_
  rotate_left
  · intro w9 hSw
    (have c4 := blk_cell (blk_keep HD.out.c hSw (by simp)) 4 _ rfl; have c5 := blk_cell (blk_keep HD.out.c hSw (by simp)) 5 _ rfl; clear hSw)
    go_simp
    all_goals (try with_reducible rfl)
  (try simp only [Act.put, gA, gB, gC, gD, gE, gF])
  refine wpAnyH_take (i := 7) (v := ?_) rfl (by kernel_rfl) (by kernel_rfl) (by kernel_rfl) (fun _ _ _ h => h) (Or.inl ⟨by rfl, ?_⟩) hHeld ?_
  rotate_left
  · intro w9 hSw
    (have c4 := blk_cell (blk_keep HD.out.c hSw (by simp)) 4 _ rfl; have c5 := blk_cell (blk_keep HD.out.c hSw (by simp)) 5 _ rfl; clear hSw)
    go_simp
    all_goals (try with_reducible rfl)
  (try simp only [Act.put, gA, gB, gC, gD, gE, gF])
  refine wpAnyH_take (i := 8) (v := ?_) rfl (by kernel_rfl) (by kernel_rfl) (by kernel_rfl) (fun _ _ _ h => h) (Or.inl ⟨by rfl, ?_⟩) hHeld ?_
  rotate_left
  · intro w9 hSw
    (have c4 := blk_cell (blk_keep HD.out.c hSw (by simp)) 4 _ rfl; have c5 := blk_cell (blk_keep HD.out.c hSw (by simp)) 5 _ rfl; clear hSw)
    go_simp
    all_goals (try with_reducible rfl)
  (try simp only [Act.put, gA, gB, gC, gD, gE, gF])
  refine wpAnyH_take (i := 9) (v := ?_) rfl (by kernel_rfl) (by kernel_rfl) (by kernel_rfl) (fun _ _ _ h => h) (Or.inl ⟨by rfl, ?_⟩) hHeld ?_
  rotate_left
  · intro w9 hSw
    (have c4 := blk_cell (blk_keep HD.out.c hSw (by simp)) 4 _ rfl; have c5 := blk_cell (blk_keep HD.out.c hSw (by simp)) 5 _ rfl; clear hSw)
    go_simp
    all_goals (try with_reducible rfl)
  (try simp only [Act.put, gA, gB, gC, gD, gE, gF])
  refine wpAnyH_take (i := 10) (v := ?_) rfl (by kernel_rfl) (by kernel_rfl) (by kernel_rfl) (fun _ _ _ h => h) (Or.inl ⟨by rfl, ?_⟩) hHeld ?_
  rotate_left
  · intro w9 hSw
    (have c4 := blk_cell (blk_keep HD.out.c hSw (by simp)) 4 _ rfl; have c5 := blk_cell (blk_keep HD.out.c hSw (by simp)) 5 _ rfl; clear hSw)
    go_simp
    all_goals (try with_reducible rfl)
  (try simp only [Act.put, gA, gB, gC, gD, gE, gF])
  refine wpAnyH_take (i := 11) (v := ?_) rfl (by kernel_rfl) (by kernel_rfl) (by kernel_rfl) (fun _ _ _ h => h) (Or.inl ⟨by rfl, ?_⟩) hHeld ?_
  rotate_left
  · intro w9 hSw
    (have c4 := blk_cell (blk_keep HD.out.c hSw (by simp)) 4 _ rfl; have c5 := blk_cell (blk_keep HD.out.c hSw (by simp)) 5 _ rfl; clear hSw)
    go_simp
    all_goals (try with_reducible rfl)
  (try simp only [Act.put, gA, gB, gC, gD, gE, gF])
  refine wpAnyH_ready (rs := [4, 12]) (by kernel_rfl) (by simp) ?_
  refine AllReadyH.cons rfl (fun K' hK' => ?_) (AllReadyH.cons rfl (fun K' hK' => ?_) AllReadyH.nil)
  · go_simp
    refine (HCl.out _ hHeld).mono ?_
    rintro e' wc ⟨v, rfl, hown, hg⟩
    have hHg := gr_trans0 hHeld hg
    (try simp only [])
    refine hK'.out _ _ hHg (fun hHeldN => ?_)
    clear hK' K' hHeld
    have hHeld := hHeldN
    clear hHeldN
    (try simp only [Act.put, gA, gB, gC, gD, gE, gF])
    refine wpAnyH_ready (rs := [12]) (by kernel_rfl) (by simp) ?_
    refine AllReadyH.cons rfl (fun K' hK' => ?_) AllReadyH.nil
    go_simp
    (try simp only [])
    refine hK'.out _ _ (gr_alloc hHeld _) (fun hHeldN => ?_)
    clear hK' K' hHeld
    have hHeld := hHeldN
    clear hHeldN
    (try simp only [Act.put, gA, gB, gC, gD, gE, gF])
    refine wpAnyH_ready (rs := [13]) (by kernel_rfl) (by simp) ?_
    refine AllReadyH.cons rfl (fun K' hK' => ?_) AllReadyH.nil
    refine step_append_lies _ (by rfl) _ _ _ (by rfl) w.drew.heap.size 98 i0 _ 3 24 Tryz.underlying38 hi hz0 hz1 hz2 (by rfl) (by decide) v n _ (by rfl) (hown.alloc _) ⟨wc.heap.size, 0, none⟩ 1 1 [.int .i64 s.day, .int .i64 m, .int .i64 p] (by rfl) (by rfl) (cells_new wc _ _ _ rfl) (by simp [Value.oneCell']) (by decide) (by unfold maxLen; omega) (by omega) (by have h9 := gr_le hg; simp at h9 ⊢; omega) _ rfl ?_
    intro g9 c9 w9 hown9 hgo9 _ _
    have hg9 : w.grownBy w9 none := gr_own hHeld hgo9 (fun x e => (by have h9 := (hown.lt x e).1; exact h9))
    obtain ⟨hc2, ho2, cs9, fz9, hty9⟩ := trade_list (by omega) hown9 HD.out.s.len
    have HTY := hid hty9
    have HO := hid (ho2.mono (base' := w.heap.size) (Nat.le_refl _))
    (try simp only [])
    refine hK'.out _ _ hg9 (fun hHeldN => ?_)
    clear hK' K' hHeld
    have hHeld := hHeldN
    clear hHeldN
    (try simp only [Act.put, gA, gB, gC, gD, gE, gF])
    refine wpAnyH_take (i := 14) (v := ?_) rfl (by kernel_rfl) (by kernel_rfl) (by kernel_rfl) (fun _ _ _ h => h) (Or.inl ⟨by rfl, ?_⟩) hHeld ?_
    rotate_left
    · intro w9 hSw
      clear hSw
      go_simp
      all_goals (try with_reducible rfl)
    (try simp only [Act.put, gA, gB, gC, gD, gE, gF])
    refine wpAnyH_done (by kernel_rfl) ?_ _
    have HG := hid hg9
    clear hHeld hown9 hgo9 hg9 ho2 hty9
    have HD9 := hid (HD.out.keep HG.out)
    have hsb := blk_lt HD.out.c
    have HV := hid (ValidTrades_any (some ⟨g9, 0, none⟩) (n + 1) c9 (s.trades ++ [⟨s.day, m, p⟩]) w9 HO.out.sl)
    cases htb : tradesB (s.trades ++ [⟨s.day, m, p⟩]) with
    | false =>
      have HT := hid (show tradeD s m p = (s, noT) by unfold tradeD; rw [htb]; rfl)
      rw [htb] at HV
      clear htb
      go_wp2_with fail
      refine HV.out.mono ?_
      rintro e w10 ⟨rfl, hg⟩
      have HG2 := hid (gr_trans0 HG.out hg)
      have HD10 := hid (HD9.out.keep hg)
      clear hg
      go_wp2_with fail
      refine (yes_any false _).mono ?_
      rintro e w11 ⟨rfl, rfl⟩
      go_wp2_with fail
      go_ret
      exact ⟨by rw [HT.out]; rfl, by rw [HT.out]; exact ⟨_, _, _, HD10.out⟩, gr_any HG2.out _⟩
    | true =>
      have HT := hid (show tradeD s m p = (⟨s.bond, s.day, s.trades ++ [⟨s.day, m, p⟩]⟩, okT) by unfold tradeD; rw [if_pos htb])
      rw [htb] at HV
      clear htb
      go_wp2_with fail
      refine HV.out.mono ?_
      rintro e w10 ⟨rfl, hg⟩
      have HG2 := hid (gr_trans0 HG.out hg)
      have HD10 := hid (HD9.out.keep hg)
      have HO10 := hid (HO.out.keep0 hg)
      have HTY10 := hid (blk_keep HTY.out hg (by simp))
      clear hg
      have c5 := blk_cell HD10.out.c 5 _ rfl
      have f5 := blk_frozen HD10.out.c 5
      go_wp2_with fail
      refine (yes_any true _).mono ?_
      rintro e w11 ⟨rfl, rfl⟩
      go_wp2_with fail
      go_ret
      refine ⟨by rw [HT.out]; rfl, ?_, gr_setCell (gr_any HG2.out (some sb)) (.inl rfl) _⟩
      rw [HT.out]
      refine ⟨_, _, _, HD10.out.setTrades HO10.out.sl hc2 (fun e => by cases e) (fun h0 b off e => ?_) (fun b off e => by cases e; exact ⟨_, _, HTY10.out⟩)⟩
      obtain ⟨b9, off9, e9, hb9, _⟩ := HO10.out.mem h0
      rw [e] at e9; cases e9
      omega
  · go_simp
    (try simp only [])
    refine hK'.out _ _ (gr_alloc hHeld _) (fun hHeldN => ?_)
    clear hK' K' hHeld
    have hHeld := hHeldN
    clear hHeldN
    (try simp only [Act.put, gA, gB, gC, gD, gE, gF])
    have hnew0 := cells_new w [.int .i64 s.day, .int .i64 m, .int .i64 p] 98 w.heap.size rfl
    refine wpAnyH_ready (rs := [4]) (by kernel_rfl) (by simp) ?_
    refine AllReadyH.cons rfl (fun K' hK' => ?_) AllReadyH.nil
    go_simp
    refine (HCl.out _ hHeld).mono ?_
    rintro e' wc ⟨v, rfl, hown, hg⟩
    have hHg := gr_trans0 hHeld hg
    (try simp only [])
    refine hK'.out _ _ hHg (fun hHeldN => ?_)
    clear hK' K' hHeld
    have hHeld := hHeldN
    clear hHeldN
    (try simp only [Act.put, gA, gB, gC, gD, gE, gF])
    have hnew : ∀ (j : Nat) (u : Value), [Value.int .i64 s.day, .int .i64 m, .int .i64 p][j]? = some u → wc.cell? ((⟨w.heap.size, 0, none⟩ : Addr).add j) = some u := fun j u h => hg.cell (hnew0 j u h) (by simp)
    refine wpAnyH_ready (rs := [13]) (by kernel_rfl) (by simp) ?_
    refine AllReadyH.cons rfl (fun K' hK' => ?_) AllReadyH.nil
    refine step_append_lies _ (by rfl) _ _ _ (by rfl) (w.alloc (Obj.cells #[.int .i64 s.day, .int .i64 m, .int .i64 p] 98)).drew.heap.size 98 i0 _ 3 24 Tryz.underlying38 hi hz0 hz1 hz2 (by rfl) (by decide) v n _ (by rfl) (hown) ⟨w.heap.size, 0, none⟩ 1 1 [.int .i64 s.day, .int .i64 m, .int .i64 p] (by rfl) (by rfl) (hnew) (by simp [Value.oneCell']) (by decide) (by unfold maxLen; omega) (by omega) (gr_le hg) _ rfl ?_
    intro g9 c9 w9 hown9 hgo9 _ _
    have hg9 : w.grownBy w9 none := gr_own hHeld hgo9 (fun x e => (by have h9 := (hown.lt x e).1; simp at h9; omega))
    obtain ⟨hc2, ho2, cs9, fz9, hty9⟩ := trade_list (by omega) hown9 HD.out.s.len
    have HTY := hid hty9
    have HO := hid (ho2.mono (base' := w.heap.size) (by simp))
    (try simp only [])
    refine hK'.out _ _ hg9 (fun hHeldN => ?_)
    clear hK' K' hHeld
    have hHeld := hHeldN
    clear hHeldN
    (try simp only [Act.put, gA, gB, gC, gD, gE, gF])
    refine wpAnyH_take (i := 14) (v := ?_) rfl (by kernel_rfl) (by kernel_rfl) (by kernel_rfl) (fun _ _ _ h => h) (Or.inl ⟨by rfl, ?_⟩) hHeld ?_
    rotate_left
    · intro w9 hSw
      clear hSw
      go_simp
      all_goals (try with_reducible rfl)
    (try simp only [Act.put, gA, gB, gC, gD, gE, gF])
    refine wpAnyH_done (by kernel_rfl) ?_ _
    have HG := hid hg9
    clear hHeld hown9 hgo9 hg9 ho2 hty9
    have HD9 := hid (HD.out.keep HG.out)
    have hsb := blk_lt HD.out.c
    have HV := hid (ValidTrades_any (some ⟨g9, 0, none⟩) (n + 1) c9 (s.trades ++ [⟨s.day, m, p⟩]) w9 HO.out.sl)
    cases htb : tradesB (s.trades ++ [⟨s.day, m, p⟩]) with
    | false =>
      have HT := hid (show tradeD s m p = (s, noT) by unfold tradeD; rw [htb]; rfl)
      rw [htb] at HV
      clear htb
      go_wp2_with fail
      refine HV.out.mono ?_
      rintro e w10 ⟨rfl, hg⟩
      have HG2 := hid (gr_trans0 HG.out hg)
      have HD10 := hid (HD9.out.keep hg)
      clear hg
      go_wp2_with fail
      refine (yes_any false _).mono ?_
      rintro e w11 ⟨rfl, rfl⟩
      go_wp2_with fail
      go_ret
      exact ⟨by rw [HT.out]; rfl, by rw [HT.out]; exact ⟨_, _, _, HD10.out⟩, gr_any HG2.out _⟩
    | true =>
      have HT := hid (show tradeD s m p = (⟨s.bond, s.day, s.trades ++ [⟨s.day, m, p⟩]⟩, okT) by unfold tradeD; rw [if_pos htb])
      rw [htb] at HV
      clear htb
      go_wp2_with fail
      refine HV.out.mono ?_
      rintro e w10 ⟨rfl, hg⟩
      have HG2 := hid (gr_trans0 HG.out hg)
      have HD10 := hid (HD9.out.keep hg)
      have HO10 := hid (HO.out.keep0 hg)
      have HTY10 := hid (blk_keep HTY.out hg (by simp))
      clear hg
      have c5 := blk_cell HD10.out.c 5 _ rfl
      have f5 := blk_frozen HD10.out.c 5
      go_wp2_with fail
      refine (yes_any true _).mono ?_
      rintro e w11 ⟨rfl, rfl⟩
      go_wp2_with fail
      go_ret
      refine ⟨by rw [HT.out]; rfl, ?_, gr_setCell (gr_any HG2.out (some sb)) (.inl rfl) _⟩
      rw [HT.out]
      refine ⟨_, _, _, HD10.out.setTrades HO10.out.sl hc2 (fun e => by cases e) (fun h0 b off e => ?_) (fun b off e => by cases e; exact ⟨_, _, HTY10.out⟩)⟩
      obtain ⟨b9, off9, e9, hb9, _⟩ := HO10.out.mem h0
      rw [e] at e9; cases e9
      omega
end Go.Proofs.YtielicmjdhmcjaaGreatDoor

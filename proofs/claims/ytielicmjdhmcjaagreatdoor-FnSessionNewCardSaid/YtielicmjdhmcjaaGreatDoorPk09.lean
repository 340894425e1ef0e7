/- Packed: Frame. -/
import Derived.Test.YtielicmjdhmcjaaGreatDoorRows
import Derived.Test.YtielicmjdhmcjaaGreatDoorPk01
import Derived.ProofKit
import Derived.Deep.Slices
/- From a law's walk to its row: what every law's proof has in common. -/
namespace Go.Proofs.YtielicmjdhmcjaaGreatDoor
open Go.ChangeShapes Go.WideShapes Go.ChangeAt Go.RowKit

theorem Tryz.own : ownKnob Tryz.prog.godebug = none := by kernel_rfl
theorem Tryz.laidOut : laidOutB Tryz.prog = true := by kernel_rfl
theorem Tryz.cellsInt : Tryz.prog.cellsOf 3 = 1 := by kernel_rfl
theorem Tryz.cellsU8 : Tryz.prog.cellsOf 5 = 1 := by kernel_rfl

theorem args_stay {H : Type} {enc : TypeId × Value → H} {W W' : World} (hb : Below W.heap.size W W') : ∀ (ts : List TypeId) (vs : List Value) (ds : List (DataW H)) (ps : List MemPlace),
    DataW.TrodAll enc Tryz.prog W 0 (fun _ => true) true ts vs ds ps → (∀ x ∈ ps, x.block < W.heap.size) → (∀ t ∈ ts, Tryz.prog.readableRec t = true ∧ t < Tryz.prog.types.size) →
    DataW.TrodAll enc Tryz.prog W' 0 (fun b => decide (b < W.heap.size)) true ts vs ds ps
  | [], [], [], ps, h, _, _ => h
  | t :: ts, v :: vs, d :: ds, ps, h, hlt, hts => by
    obtain ⟨p, q, h0, hr, rfl⟩ := h
    exact ⟨p, q, Below.trod Tryz.laidOut (hts t (by simp)).1 (hts t (by simp)).2 h0 hb (fun x hx => hlt x (List.mem_append_left _ hx)),
      args_stay hb ts vs ds q hr (fun x hx => hlt x (List.mem_append_right _ hx)) (fun t ht => hts t (List.mem_cons_of_mem _ ht)), rfl⟩
  | [], _ :: _, _, _, h, _, _ => h.elim
  | [], [], _ :: _, _, h, _, _ => h.elim
  | _ :: _, [], _, _, h, _, _ => h.elim
  | _ :: _, _ :: _, [], _, h, _, _ => h.elim

theorem add_plain {a : Addr} {w : World} {v : Value} (h : w.cell? a = some v) : a = ⟨a.block, a.off, none⟩ := by
  cases hs : a.spot with
  | none => cases a; simp at hs; rw [hs]
  | some s =>
    unfold World.cell? at h
    split at h <;> simp [hs] at h

theorem u8_range {z : Int} (h : (Lit.int .u8 z).wf = true) : 0 ≤ z ∧ z ≤ 255 := by
  simpa [Lit.wf, IntKind.min, IntKind.max, IntKind.signed, IntKind.bits] using h

theorem i64_range {z : Int} (h : (Lit.int .i64 z).wf = true) : -9223372036854775808 ≤ z ∧ z ≤ 9223372036854775807 := by
  have h1 : IntKind.i64.min = -9223372036854775808 := rfl
  have h2 : IntKind.i64.max = 9223372036854775807 := rfl
  simp only [Lit.wf, Bool.and_eq_true, decide_eq_true_eq] at h
  omega

theorem sl_ints {H : Type} {enc : TypeId × Value → H} {w : World} {base : Nat} {spare : Nat → Bool} {held : Bool} {t e : TypeId} {k : IntKind} {fuel : Nat} {a : Option Addr} {n cap : Nat} {x : DataW H × List MemPlace}
    (L : Lay Int) (hL : ∀ z, L.cells z = [.int k z]) (hsz : L.sz = 1) (ht : Tryz.prog.underlying t = some (.slice e)) (he : Tryz.prog.underlying e = some (.int k)) (hc : Tryz.prog.cellsOf e = 1)
    (h : DataW.trod enc Tryz.prog w base spare held fuel t [.slice a n cap] = some x) : ∃ xs : List Int, Sl L w a n xs ∧ n ≤ cap ∧ ∀ z ∈ xs, (Lit.int k z).wf = true := by
  rcases open_ints ht he hc h with ⟨e1, _⟩ | ⟨b, len, cap', zs, e1, _, hl, hm, hz, _, hcell, hwf⟩
  · simp only [List.cons.injEq, Value.slice.injEq, and_true] at e1
    obtain ⟨rfl, rfl, rfl⟩ := e1
    exact ⟨[], Sl.nil _ _ _, Nat.le_refl _, by simp⟩
  · simp only [List.cons.injEq, Value.slice.injEq, and_true] at e1
    obtain ⟨rfl, rfl, rfl⟩ := e1
    have hzn : n ≤ zs.length := by rw [hz]; split <;> omega
    refine ⟨zs.take n, ⟨by rw [List.length_take]; omega, Nat.le_trans hl hm, fun h0 => ?_⟩, hl, fun z hz => hwf z (List.mem_of_mem_take hz)⟩
    have h00 := hcell 0 (by omega)
    have hb : b = ⟨b.block, b.off, none⟩ := add_plain (by simpa [Addr.add] using h00)
    refine ⟨b.block, b.off, by rw [← hb], World.block_lt_of_cell? w _ h00, fun i z hx j c hj => ?_⟩
    have hi : i < n := by have := lt_of_at hx; rw [List.length_take] at this; omega
    rw [List.getElem?_take_of_lt hi] at hx
    rw [hL] at hj
    cases j with
    | succ j => simp at hj
    | zero =>
      obtain rfl : Value.int k z = c := by simpa using hj
      have h1 := hcell i (by omega)
      rw [hb] at h1
      rw [hsz, Nat.mul_one, Nat.add_zero]
      have e2 : zs.getD i 0 = z := by simp [List.getD, hx]
      rw [e2] at h1
      by_cases hi0 : i = 0
      · subst hi0; simpa [Addr.add] using h1
      · simpa [Addr.add, hi0] using h1

theorem mapM_at {β : Type} {f : Nat → Option β} {n : Nat} {r : List β} (h : (List.range n).mapM f = some r) (j : Nat) (c : β) (hj : r[j]? = some c) : f j = some c := by
  have hl : r.length = n := by have := mapM_some_length h; simpa using this
  have hjn : j < n := by have := lt_of_at hj; omega
  have := mapM_some_get h j j (by simp [hjn])
  rw [this, hj]

theorem pick_list {α : Type} {p : Nat → α → Prop} : ∀ (n : Nat), (∀ i, i < n → ∃ x, p i x) → ∃ xs : List α, xs.length = n ∧ ∀ (i : Nat) (x : α), xs[i]? = some x → p i x
  | 0, _ => ⟨[], rfl, by simp⟩
  | n + 1, h => by
    obtain ⟨xs, hl, hx⟩ := pick_list n (fun i hi => h i (by omega))
    obtain ⟨y, hy⟩ := h n (by omega)
    refine ⟨xs ++ [y], by simp [hl], fun i x he => ?_⟩
    by_cases hi : i < n
    · rw [List.getElem?_append_left (by omega)] at he; exact hx i x he
    · rw [List.getElem?_append_right (by omega)] at he
      have hi2 : i - xs.length = 0 := by
        by_cases h0 : i - xs.length = 0
        · exact h0
        · rw [List.getElem?_eq_none (by simp; omega)] at he; cases he
      rw [hi2] at he
      obtain rfl : y = x := by simpa using he
      obtain rfl : i = n := by omega
      exact hy

theorem addr_add (b o i : Nat) : (⟨b, o, none⟩ : Addr).add i = ⟨b, o + i, none⟩ := by
  unfold Addr.add
  split
  · rename_i h; subst h; rfl
  · rfl

theorem sl_rows {H : Type} {α : Type} {enc : TypeId × Value → H} {w : World} {base : Nat} {spare : Nat → Bool} {held : Bool} {t e : TypeId} {fuel : Nat} {a : Option Addr} {n cap : Nat} {x : DataW H × List MemPlace}
    (L : Lay α) (good : α → Prop) (hL : 0 < L.sz) (ht : Tryz.prog.underlying t = some (.slice e)) (hc : Tryz.prog.cellsOf e = L.sz)
    (hrow : ∀ (fuel : Nat) (cs : List Value) (y : DataW H × List MemPlace), DataW.trod enc Tryz.prog w base spare held fuel e cs = some y → ∃ x, cs = L.cells x ∧ good x)
    (h : DataW.trod enc Tryz.prog w base spare held fuel t [.slice a n cap] = some x) : ∃ xs : List α, Sl L w a n xs ∧ n ≤ cap ∧ ∀ z ∈ xs, good z := by
  rcases Deep.open_slice ht h with ⟨e1, _⟩ | ⟨b, len, cap', m, n', D, Pl, e1, hb, hl, hm, hmm, _, hel⟩
  · simp only [List.cons.injEq, Value.slice.injEq, and_true] at e1
    obtain ⟨rfl, rfl, rfl⟩ := e1
    exact ⟨[], Sl.nil _ _ _, Nat.le_refl _, by simp⟩
  · simp only [List.cons.injEq, Value.slice.injEq, and_true] at e1
    obtain ⟨rfl, rfl, rfl⟩ := e1
    have hnm : n ≤ m := by rw [hmm]; split <;> omega
    have hx : ∀ i, i < n → ∃ x : α, (∀ (j : Nat) (c : Value), (L.cells x)[j]? = some c → w.cell? ((b.add (i * L.sz)).add j) = some c) ∧ good x := by
      intro i hi
      obtain ⟨cs', h1, h2⟩ := hel i (by omega)
      obtain ⟨x, rfl, hg⟩ := hrow _ _ _ h2
      refine ⟨x, fun j c hj => ?_, hg⟩
      rw [hc] at h1
      unfold World.cells? at h1
      split at h1
      · exact mapM_at h1 j c hj
      · cases h1
    obtain ⟨xs, hxl, hxs⟩ := pick_list n hx
    refine ⟨xs, ⟨hxl, Nat.le_trans hl hm, fun h0 => ?_⟩, hl, fun z hz => ?_⟩
    · have hk0 : 0 < xs.length := by omega
      have h00 := (hxs 0 xs[0] (by simp)).1 0 ((L.cells xs[0])[0]'(by rw [L.len]; exact hL)) (by simp)
      have hb0 : b = ⟨b.block, b.off, none⟩ := add_plain (by simpa [Addr.add] using h00)
      refine ⟨b.block, b.off, by rw [← hb0], World.block_lt_of_cell? w _ (by simpa [Addr.add] using h00), fun k x hx j c hj => ?_⟩
      have h1 := (hxs k x hx).1 j c hj
      rw [hb0] at h1
      rw [addr_add, addr_add, Nat.add_assoc] at h1
      exact h1
    · obtain ⟨i, hi⟩ := List.getElem?_of_mem hz
      exact (hxs i z hi).2

/- The facts of the program's head, without a run over its whole text. -/
theorem toList_lit {s : String} {L : List Char} (h : s = String.ofList L) : s.toList = L := by rw [h, String.toList_ofList]

theorem word_one (a : List Char) (ha : a.all (fun c => c != Char.ofNat 32) = true) (r : List Char) : wordsSigns (a ++ Char.ofNat 32 :: r) = a :: wordsSigns r := by
  induction a with
  | nil => rfl
  | cons c a ih =>
    simp only [List.all_cons, Bool.and_eq_true, bne_iff_ne, ne_eq] at ha
    have e : wordsSigns (c :: (a ++ Char.ofNat 32 :: r)) = match wordsSigns (a ++ Char.ofNat 32 :: r) with
      | w :: ws => (c :: w) :: ws
      | [] => [[c]] := by
      rw [wordsSigns]
      · rfl
      · exact ha.1
    rw [List.cons_append, e, ih ha.2]

theorem word_at (L : List Char) (i : Nat) (h : ((L.take i).all (fun c => c != Char.ofNat 32) && ((L.drop i).head? == some (Char.ofNat 32))) = true) : wordsSigns L = L.take i :: wordsSigns (L.drop (i + 1)) := by
  simp only [Bool.and_eq_true, beq_iff_eq] at h
  have e : L = L.take i ++ Char.ofNat 32 :: L.drop (i + 1) := by
    conv => lhs; rw [← List.take_append_drop i L]
    congr 1
    cases hd : L.drop i with
    | nil => rw [hd] at h; simp at h
    | cons c r =>
      rw [hd] at h
      obtain rfl : c = Char.ofNat 32 := by simpa using h.2
      rw [← List.drop_drop, hd]; rfl
  conv => lhs; rw [e]
  exact word_one _ h.1 _
theorem stripLifts_cut (X : List (List Char)) : stripLifts liftWords ("cut".toList :: X) = ([], "cut".toList :: X) := by
  unfold liftWords
  repeat (rw [stripLifts, if_neg (by decide)])
  rfl

theorem head_of (P : Program) (s : String) (L : List Char) (io : P.initOrder = s) (hL : s = String.ofList L)
    (w1 : ((L.take 7).all (fun c => c != Char.ofNat 32) && ((L.drop 7).head? == some (Char.ofNat 32))) = true)
    (w2 : (((L.drop (7 + 1)).take 64).all (fun c => c != Char.ofNat 32) && (((L.drop (7 + 1)).drop 64).head? == some (Char.ofNat 32))) = true)
    (w3 : ((((L.drop (7 + 1)).drop (64 + 1)).take 3).all (fun c => c != Char.ofNat 32) && ((((L.drop (7 + 1)).drop (64 + 1)).drop 3).head? == some (Char.ofNat 32))) = true)
    (ha : (L.take 7 == "harness".toList) = true) (hb : isSumSigns ((L.drop (7 + 1)).take 64) = true) (hc : ((L.drop (7 + 1)).drop (64 + 1)).take 3 = "cut".toList) : ∃ X, behindMainWord (wordsSigns P.initOrder.toList) = "cut".toList :: X := by
  have h : ∃ X, wordsSigns P.initOrder.toList = L.take 7 :: (L.drop (7 + 1)).take 64 :: "cut".toList :: X := by
    rw [io, toList_lit hL, word_at L 7 w1, word_at _ 64 w2, word_at _ 3 w3, hc]
    exact ⟨_, rfl⟩
  obtain ⟨X, h⟩ := h
  generalize L.take 7 = a at *
  generalize (L.drop (7 + 1)).take 64 = b at *
  refine ⟨X, ?_⟩
  rw [h]
  show (if ((a == "harness".toList || a == "ownmain".toList) && isSumSigns b) = true then "cut".toList :: X else a :: b :: "cut".toList :: X) = _
  rw [ha, hb]; rfl

theorem enter_of (P : Program) (h : ∃ X, behindMainWord (wordsSigns P.initOrder.toList) = "cut".toList :: X)
    (h1 : P.laysLater = false) (h2 : P.bearsReflect = false) (hd : P.doorFits [] = true) : P.mayEnter = true := by
  obtain ⟨X, hw⟩ := h
  unfold Program.mayEnter
  rw [hw]
  simp only [stripLifts_cut, hd, h1, h2]
  simp

theorem lifts_of (P : Program) (h : ∃ X, behindMainWord (wordsSigns P.initOrder.toList) = "cut".toList :: X) : P.liftsFinal = false := by
  obtain ⟨X, hw⟩ := h
  unfold Program.liftsFinal Program.headLifts
  rw [hw]
  simp only [stripLifts_cut]
  simp

theorem make_of (P : Program) (h : ∃ X, behindMainWord (wordsSigns P.initOrder.toList) = "cut".toList :: X) : P.make = some .cut := by
  obtain ⟨X, hw⟩ := h
  unfold Program.make
  rw [hw]
  rfl

set_option maxRecDepth 100000 in
theorem Tryz.head : ∃ X, behindMainWord (wordsSigns Tryz.prog.initOrder.toList) = "cut".toList :: X :=
  head_of Tryz.prog "harness efa8652cb767d110e6de1ad6a8a63b60ce84089dc576426d00f0bc0cbc999c4b cut at loop.example/bonddesk/laws.FnSessionNew loop.example/bonddesk/laws.FnSessionPrefix loop.example/bonddesk/laws.FnSessionQuestions loop.example/bonddesk/laws.FnExactRunSession" _ (by as_aux_lemma => kernel_rfl) rfl (by as_aux_lemma => kernel_rfl) (by as_aux_lemma => kernel_rfl) (by as_aux_lemma => kernel_rfl) (by as_aux_lemma => kernel_rfl) (by as_aux_lemma => kernel_rfl) (by as_aux_lemma => kernel_rfl)
set_option maxRecDepth 100000 in
theorem Tryz.enters : Tryz.prog.mayEnter = true := enter_of _ Tryz.head (by as_aux_lemma => kernel_rfl) (by as_aux_lemma => kernel_rfl) (by as_aux_lemma => kernel_rfl)
theorem Tryz.lifts : Tryz.prog.liftsFinal = false := lifts_of _ Tryz.head
theorem Tryz.cut : Tryz.prog.make = some .cut := make_of _ Tryz.head

end Go.Proofs.YtielicmjdhmcjaaGreatDoor

/- Shares of an amount in the ratio of weights: the program's (a stable sort by the rests) and the reference's (the greatest rest again and again). -/
import Derived.Test.YtecboohippbliaaRows
import Derived.Test.YtecboohippbliaaBase
import Derived.Test.YtecboohippbliaaInts
import Derived.Deep.QuietTactic
import Derived.BigQuiet
namespace Go.Proofs.Ytecboohippbliaa
open Go.RowKit

def cmpI (x y : Int) : Int := if x < y then -1 else if y < x then 1 else 0

theorem Compare_any (x y : Int) (w : World) :
    Calls Try.prog 76 #[.int .i64 x, .int .i64 y] w fun e w' => e = .returned (.int .i64 (cmpI x y)) ∧ w' = w := by
  unfold cmpI
  by_cases h : x < y
  · go_enter Try.func76, Try.ntmps76
    go_wp2
    go_ret
    exact ⟨rfl, rfl⟩
  · by_cases h2 : y < x
    · go_enter Try.func76, Try.ntmps76
      go_wp2
      go_ret
      exact ⟨rfl, rfl⟩
    · go_enter Try.func76, Try.ntmps76
      go_wp2
      go_ret
      exact ⟨rfl, rfl⟩

def restOf (amount s : Int) (ws : List Int) (k : Nat) : Int := amount * ws.getD k 0 % s

structure ShIn (w : World) (ab wb sb : Nat) (amount s : Int) (a : Option Addr) (n cap : Nat) (ws : List Int) : Prop where
  amount : w.cell? ⟨ab, 0, none⟩ = some (.int .i64 amount)
  weights : w.cell? ⟨wb, 0, none⟩ = some (.slice a n cap)
  sum : w.cell? ⟨sb, 0, none⟩ = some (.int .i64 s)
  sl : Sl intL w a n ws

set_option maxRecDepth 100000 in
set_option maxHeartbeats 400000 in
theorem shares1_any (ab wb sb : Nat) (amount s : Int) (a : Option Addr) (n cap : Nat) (ws : List Int) (i k : Nat) (w : World) (h : ShIn w ab wb sb amount s a n cap ws)
    (ha0 : 0 ≤ amount) (ha1 : amount ≤ 1000000000) (hw : ∀ x ∈ ws, 0 ≤ x ∧ x ≤ 9999) (hs : 0 < s) (hi : i < n) (hk : k < n) :
    Calls Try.prog 75 #[.int .i64 i, .int .i64 k, .pointer (some ⟨ab, 0, none⟩), .pointer (some ⟨wb, 0, none⟩), .pointer (some ⟨sb, 0, none⟩)] w
      fun e w' => e = .returned (.int .i64 (cmpI (restOf amount s ws k) (restOf amount s ws i))) ∧ ∃ m, w' = w.drewN m := by
  obtain ⟨h1, h2, h3, hsl⟩ := h
  have hbig := hsl.big
  unfold maxLen at hbig
  obtain ⟨b, off, x, rfl, hx, cx⟩ := int_at hsl i hi
  obtain ⟨b2, off2, y, e2, hy, cy⟩ := int_at hsl k hk
  simp only [Option.some.injEq, Addr.mk.injEq, and_true] at e2
  obtain ⟨rfl, rfl⟩ := e2
  have hxb := hw x (List.mem_of_getElem? hx)
  have hyb := hw y (List.mem_of_getElem? hy)
  have ex : restOf amount s ws i = amount * x % s := by unfold restOf; rw [List.getD_eq_getElem?_getD, hx]; rfl
  have ey : restOf amount s ws k = amount * y % s := by unfold restOf; rw [List.getD_eq_getElem?_getD, hy]; rfl
  have p1 : 0 ≤ amount * x := Int.mul_nonneg ha0 hxb.1
  have p2 : 0 ≤ amount * y := Int.mul_nonneg ha0 hyb.1
  have p3 : amount * x ≤ 1000000000 * 9999 := Int.mul_le_mul ha1 hxb.2 hxb.1 (by omega)
  have p4 : amount * y ≤ 1000000000 * 9999 := Int.mul_le_mul ha1 hyb.2 hyb.1 (by omega)
  rw [ex, ey]
  have u1 : IntKind.i64.wrap (amount * x) = amount * x := IntWalk.i64_in _ (by omega)
  have u2 : IntKind.i64.wrap (amount * y) = amount * y := IntWalk.i64_in _ (by omega)
  have t1 : (amount * x).tmod s = amount * x % s := Int.tmod_eq_emod_of_nonneg p1
  have t2 : (amount * y).tmod s = amount * y % s := Int.tmod_eq_emod_of_nonneg p2
  have i1 : (0 : Int) ≤ i := by omega
  have i2 : (i : Int) < n := by omega
  have i3 : (0 : Int) ≤ k := by omega
  have i4 : (k : Int) < n := by omega
  have hs0 : ¬ s = 0 := by omega
  clear ex ey hx hy hsl hw
  go_enter Try.func75, Try.ntmps75
  go_wp2_with fail
  go_quiet ((go_at_call 76; exact Calls.quiet_of_same (Compare_any _ _ _)))
  go_wp2
  go_ret
  exact ⟨rfl, _, rfl⟩

/- Insertion from the right, as the library's insertion sort does it. -/
def insR {α : Type} (lt : α → α → Bool) (x : α) : List α → List α
  | [] => [x]
  | y :: ys => if lt x y = true then y :: insR lt x ys else x :: y :: ys
def ins {α : Type} (lt : α → α → Bool) (x : α) (p : List α) : List α := (insR lt x p.reverse).reverse
def isort {α : Type} (lt : α → α → Bool) (xs : List α) : List α := xs.foldl (fun acc x => ins lt x acc) []

theorem ins_snoc {α : Type} (lt : α → α → Bool) (x y : α) (p : List α) : ins lt x (p ++ [y]) = if lt x y = true then ins lt x p ++ [y] else p ++ [y, x] := by
  unfold ins
  rw [List.reverse_append]
  simp only [List.reverse_cons, List.reverse_nil, List.nil_append, List.singleton_append, insR]
  split
  · simp
  · simp

theorem ins_nil {α : Type} (lt : α → α → Bool) (x : α) : ins lt x [] = [x] := rfl

theorem insR_len {α : Type} (lt : α → α → Bool) (x : α) (p : List α) : (insR lt x p).length = p.length + 1 := by
  induction p with
  | nil => rfl
  | cons y ys ih => unfold insR; split <;> simp [ih]
theorem ins_len {α : Type} (lt : α → α → Bool) (x : α) (p : List α) : (ins lt x p).length = p.length + 1 := by unfold ins; rw [List.length_reverse, insR_len, List.length_reverse]

theorem isort_snoc {α : Type} (lt : α → α → Bool) (x : α) (p : List α) : isort lt (p ++ [x]) = ins lt x (isort lt p) := by unfold isort; rw [List.foldl_append]; rfl
theorem snoc_ind {α : Type} {P : List α → Prop} (h0 : P []) (h1 : ∀ p x, P p → P (p ++ [x])) (xs : List α) : P xs := by
  have h : ∀ ys : List α, P ys.reverse := by
    intro ys
    induction ys with
    | nil => exact h0
    | cons y ys ih => rw [List.reverse_cons]; exact h1 _ _ ih
  have := h xs.reverse
  rwa [List.reverse_reverse] at this
theorem isort_len {α : Type} (lt : α → α → Bool) (p : List α) : (isort lt p).length = p.length :=
  snoc_ind (P := fun p => (isort lt p).length = p.length) rfl (fun p x ih => by rw [isort_snoc, ins_len, ih]; simp) p

theorem insR_mem {α : Type} (lt : α → α → Bool) (x z : α) (p : List α) : z ∈ insR lt x p ↔ z = x ∨ z ∈ p := by
  induction p with
  | nil => simp [insR]
  | cons y ys ih =>
    unfold insR
    split
    · rw [List.mem_cons, ih, List.mem_cons]
      constructor
      · rintro (h | h | h) <;> simp [h]
      · rintro (h | h | h) <;> simp [h]
    · simp
theorem ins_mem {α : Type} (lt : α → α → Bool) (x z : α) (p : List α) : z ∈ ins lt x p ↔ z = x ∨ z ∈ p := by unfold ins; rw [List.mem_reverse, insR_mem, List.mem_reverse]
theorem isort_mem {α : Type} (lt : α → α → Bool) (z : α) (p : List α) : z ∈ isort lt p ↔ z ∈ p := by
  refine snoc_ind (P := fun p => z ∈ isort lt p ↔ z ∈ p) (by simp [isort]) (fun p x ih => ?_) p
  rw [isort_snoc, ins_mem, ih]; simp [or_comm]

/-- The element j of a list. -/
theorem split_at {α : Type} (xs : List α) (j : Nat) (x : α) (h : xs[j]? = some x) : xs = xs.take j ++ x :: xs.drop (j + 1) := by
  have hj := lt_of_at h
  have e : xs[j] = x := by rw [List.getElem?_eq_getElem hj] at h; exact Option.some.inj h
  rw [← e, List.getElem_cons_drop hj, List.take_append_drop]

/-- An exchange of two neighbours. -/
theorem swap_list {α : Type} (p s : List α) (y x : α) (j : Nat) (hj : p.length + 1 = j) : ((p ++ y :: x :: s).set j y).set (j - 1) x = p ++ x :: y :: s := by
  subst hj
  rw [show p.length + 1 - 1 = p.length by omega]
  induction p with
  | nil => rfl
  | cons z zs ih => simp only [List.cons_append, List.length_cons, List.set_cons_succ]; rw [ih]


/- The library's insertion sort on the order of the shares. -/
def ltR (amount s : Int) (ws : List Int) (i k : Int) : Bool := decide (cmpI (restOf amount s ws k.toNat) (restOf amount s ws i.toNat) < 0)

theorem ShIn.keepB {w w' : World} {ab wb sb : Nat} {amount s : Int} {a : Option Addr} {n cap B : Nat} {ws : List Int} (h : ShIn w ab wb sb amount s a n cap ws) (g : Below B w w') (h1 : ab < B) (h2 : wb < B) (h3 : sb < B) (h4 : 0 < n → ∀ b off, a = some ⟨b, off, none⟩ → b < B) : ShIn w' ab wb sb amount s a n cap ws :=
  ⟨by rw [g.cell (p := ⟨ab, 0, none⟩) h1]; exact h.amount, by rw [g.cell (p := ⟨wb, 0, none⟩) h2]; exact h.weights, by rw [g.cell (p := ⟨sb, 0, none⟩) h3]; exact h.sum, h.sl.keepB g h4⟩

theorem ShIn.drewN {w : World} {ab wb sb : Nat} {amount s : Int} {a : Option Addr} {n cap : Nat} {ws : List Int} (h : ShIn w ab wb sb amount s a n cap ws) (m : Nat) : ShIn (w.drewN m) ab wb sb amount s a n cap ws :=
  ⟨h.amount, h.weights, h.sum, h.sl.keep0 (gr_drewN (gr0 _) _)⟩

theorem ShIn.keep0 {w w' : World} {ab wb sb : Nat} {amount s : Int} {a : Option Addr} {n cap : Nat} {ws : List Int} (h : ShIn w ab wb sb amount s a n cap ws) (g : w.grownBy w' none) : ShIn w' ab wb sb amount s a n cap ws :=
  ⟨g.cell h.amount (by simp), g.cell h.weights (by simp), g.cell h.sum (by simp), h.sl.keep0 g⟩

set_option maxRecDepth 100000 in
set_option maxHeartbeats 1000000 in
theorem insertionSort_any (g cap2 ab wb sb B n cap : Nat) (amount s : Int) (a : Option Addr) (ws xs : List Int) (w : World) (h : ShIn w ab wb sb amount s a n cap ws)
    (h1 : ab < B) (h2 : wb < B) (h3 : sb < B) (h4 : 0 < n → ∀ b off, a = some ⟨b, off, none⟩ → b < B) (hB : B ≤ w.heap.size)
    (ho : Ow intL w B (some ⟨g, 0, none⟩) n xs) (hn : n ≤ 100) (hx : ∀ x ∈ xs, 0 ≤ x ∧ x < n)
    (ha0 : 0 ≤ amount) (ha1 : amount ≤ 1000000000) (hw : ∀ x ∈ ws, 0 ≤ x ∧ x ≤ 9999) (hs : 0 < s) :
    Calls Try.prog 94 #[.slice (some ⟨g, 0, none⟩) n cap2, .int .i64 0, .int .i64 n, .func (.func 75) #[] #[.pointer (some ⟨ab, 0, none⟩), .pointer (some ⟨wb, 0, none⟩), .pointer (some ⟨sb, 0, none⟩)]] w
      fun e w' => e = .returned (.tuple #[]) ∧ Ow intL w' B (some ⟨g, 0, none⟩) n (isort (ltR amount s ws) xs) ∧ w.grownBy w' (some g) := by
  have H := hid h; clear h
  have Ho := hid ho; clear ho
  have Hx := hid hx; clear hx
  have Hw := hid hw; clear hw
  have H4 := hid h4; clear h4
  by_cases hn0 : n = 0
  · subst hn0
    obtain rfl : xs = [] := List.eq_nil_of_length_eq_zero Ho.out.len
    go_enter Try.func94, Try.ntmps94
    go_wp2_with fail
    go_loop [8] (fun i => i = .int .i64 1) (fun _ => 0)
    case atStart => rfl
    case round =>
      subst hrel
      go_wp2
      go_end0
      exact ⟨rfl, Ho.out, gr_refl _ _⟩
  · have hBg : B ≤ g := by
      obtain ⟨b, off, e, hb, _⟩ := Ho.out.mem (by omega); cases e; exact hb
    go_enter Try.func94, Try.ntmps94
    go_wp2_with fail
    go_loopw [8] (fun i wr => ∃ k : Nat, 1 ≤ k ∧ k ≤ n ∧ i = .int .i64 k ∧ Ow intL wr B (some ⟨g, 0, none⟩) n (isort (ltR amount s ws) (xs.take k) ++ xs.drop k) ∧ w.grownBy wr (some g)) (fun i _ => n - (intOf i).toNat)
    case atStart =>
      refine ⟨1, by omega, by omega, rfl, ?_, gr_refl _ _⟩
      cases hxs : xs with
      | nil => have := Ho.out.len; rw [hxs] at this; simp at this; omega
      | cons x rest =>
        have : isort (ltR amount s ws) (List.take 1 (x :: rest)) ++ List.drop 1 (x :: rest) = x :: rest := rfl
        rw [this, ← hxs]; exact Ho.out
    case round =>
      obtain ⟨k, hk1, hk, rfl, how, hb⟩ := hrel
      have How := hid how; clear how
      have Hb := hid hb; clear hb
      by_cases hlt : k < n
      · obtain ⟨wo, rfl⟩ : ∃ wo : World, wo = wr := ⟨_, rfl⟩
        obtain ⟨x, hxk⟩ : ∃ x, xs[k]? = some x := ⟨xs[k]'(by rw [Ho.out.len]; exact hlt), by simp⟩
        have hxr := Hx.out x (List.mem_of_getElem? hxk)
        have Hd : Hid (xs.drop k = x :: xs.drop (k + 1)) := by
          refine hid ?_
          have e : xs[k]'(lt_of_at hxk) = x := by rw [List.getElem?_eq_getElem (lt_of_at hxk)] at hxk; exact Option.some.inj hxk
          rw [← e, List.getElem_cons_drop]
        have Hxk := hid hxk; clear hxk
        go_wp2_with fail
        go_loopw [9] (fun j wi => ∃ (q : Nat) (P S : List Int), q ≤ k ∧ j = .int .i64 q ∧ P.length = q ∧ (∀ z ∈ P, 0 ≤ z ∧ z < n) ∧ Ow intL wi B (some ⟨g, 0, none⟩) n (P ++ x :: S) ∧ ins (ltR amount s ws) x P ++ S = isort (ltR amount s ws) (xs.take (k + 1)) ++ xs.drop (k + 1) ∧ w.grownBy wi (some g)) (fun j _ => (intOf j).toNat)
        case atStart =>
          refine ⟨k, isort (ltR amount s ws) (xs.take k), xs.drop (k + 1), Nat.le_refl _, rfl, by rw [isort_len, List.length_take, Ho.out.len]; omega, fun z hz => Hx.out z (List.mem_of_mem_take ((isort_mem _ _ _).1 hz)), by rw [← Hd.out]; exact How.out, ?_, Hb.out⟩
          rw [take_snoc _ _ _ Hxk.out, isort_snoc]
        case round =>
          obtain ⟨q, P, S, hq, rfl, hP, hPm, hO, hG, hB2⟩ := hrel
          have HG := hid hG; clear hG
          have HPm := hid hPm; clear hPm
          have HP := hid hP; clear hP
          have HO := hid hO; clear hO
          have HB2 := hid hB2; clear hB2
          by_cases hq0 : q = 0
          · subst hq0
            obtain rfl : P = [] := List.eq_nil_of_length_eq_zero HP.out
            rw [show ((0 : Nat) : Int) = 0 from rfl]
            go_wp2_with fail
            go_quiet (fail)
            go_wp2
            go_roundw
            case rel =>
              refine ⟨k + 1, by omega, by omega, by go_num, ?_, gr_drewN HB2.out _⟩
              rw [← HG.out]
              exact HO.out.keep0 (gr_drewN (gr0 _) _)
            case measure => simp [intOf]; omega
          · obtain ⟨P', y, rfl⟩ : ∃ P' y, P = P' ++ [y] := by
              have hne : P ≠ [] := fun e => by have := HP.out; rw [e] at this; simp at this; omega
              exact ⟨P.dropLast, P.getLast hne, (List.dropLast_concat_getLast hne).symm⟩
            have hP' : P'.length + 1 = q := by have := HP.out; simpa using this
            have hy := HPm.out y (by simp)
            obtain ⟨xn, rfl⟩ := Int.eq_ofNat_of_zero_le hxr.1
            obtain ⟨yn, rfl⟩ := Int.eq_ofNat_of_zero_le hy.1
            have c0 : wr.cell? ⟨g, q, none⟩ = some (.int .i64 xn) := by
              obtain ⟨b, off, z, e, hz, hc⟩ := int_at HO.out.sl q (by omega)
              cases e
              rw [List.getElem?_append_right (by simp; omega)] at hz
              have : q - (P' ++ [(yn : Int)]).length = 0 := by simp; omega
              rw [this] at hz
              obtain rfl := Option.some.inj hz
              simpa using hc
            have c1 : wr.cell? ⟨g, q - 1, none⟩ = some (.int .i64 yn) := by
              obtain ⟨b, off, z, e, hz, hc⟩ := int_at HO.out.sl (q - 1) (by omega)
              cases e
              rw [List.append_assoc, List.getElem?_append_right (by omega)] at hz
              have : q - 1 - P'.length = 0 := by omega
              rw [this] at hz
              obtain rfl := Option.some.inj hz
              simpa using hc
            have f0 : wr.frozen? ⟨g, q, none⟩ = false := by
              obtain ⟨b, off, e, _, _, hf, _⟩ := HO.out.mem (by omega); cases e; exact hf q
            have f1 : wr.frozen? ⟨g, q - 1, none⟩ = false := by
              obtain ⟨b, off, e, _, _, hf, _⟩ := HO.out.mem (by omega); cases e; exact hf (q - 1)
            have Hsh := hid (H.out.keepB (below_gr HB2.out (fun k e => by cases e; exact hBg) hB) h1 h2 h3 H4.out)
            have i1 : (0 : Int) < q := by omega
            have i0 : 0 < q := by omega
            have i2 : (q : Int) < n := by omega
            have i3 : IntKind.i64.wrap ((q : Int) - 1) = q - 1 := IntWalk.i64_in _ (by omega)
            have i4 : ((q : Int) - 1).toNat = q - 1 := by omega
            go_wp2_with fail
            go_quiet ((go_at_call 75; exact Calls.quiet_of (shares1_any ab wb sb amount s a n cap ws xn yn _ (Hsh.out.drewN _) ha0 ha1 Hw.out hs (by omega) (by omega))))
            have HO2 := hid (HO.out.keep0 (gr_drewN (gr0 _) nq))
            have HB3 := hid (gr_drewN HB2.out nq)
            by_cases hlt2 : cmpI (restOf amount s ws yn) (restOf amount s ws xn) < 0
            · have Hlt : Hid (ltR amount s ws xn yn = true) := hid (decide_eq_true hlt2)
              have e0 : (wr.drewN nq).cell? ⟨g, q, none⟩ = some (.int .i64 xn) := c0
              have e1 : (wr.drewN nq).cell? ⟨g, q - 1, none⟩ = some (.int .i64 yn) := c1
              have e2 : (wr.drewN nq).frozen? ⟨g, q, none⟩ = false := f0
              have e3 : (wr.drewN nq).frozen? ⟨g, q - 1, none⟩ = false := f1
              generalize wr.drewN nq = w9 at *
              have hne : ¬ q - 1 = q := by omega
              have hne' : ¬ q = q - 1 := by omega
              go_wp2_with fail
              go_region
              go_wp2
              go_roundw
              case rel =>
                have o1 := HO2.out.set q 0 xn yn (.int .i64 yn) (by rw [List.append_assoc, List.getElem?_append_right (by omega), show q - P'.length = 1 by omega]; rfl) (by simp [intL]) rfl q (by simp [intL])
                have o2 := o1.set (q - 1) 0 yn xn (.int .i64 xn) (by rw [List.getElem?_set_ne (by omega), List.append_assoc, List.getElem?_append_right (by omega), show q - 1 - P'.length = 0 by omega]; rfl) (by simp [intL]) rfl (q - 1) (by simp [intL])
                have e : ((P' ++ [(yn : Int)] ++ (xn : Int) :: S).set q yn).set (q - 1) xn = P' ++ (xn : Int) :: (yn : Int) :: S := by
                  rw [List.append_assoc]; exact swap_list P' S yn xn q hP'
                rw [e] at o2
                refine ⟨q - 1, P', yn :: S, by omega, by congr 1; omega, by omega, fun z hz => HPm.out z (List.mem_append_left _ hz), ?_, ?_, ?_⟩
                · exact o2.keep0 (gr_drew (gr0 _))
                · rw [← HG.out, ins_snoc, if_pos Hlt.out, List.append_assoc]; rfl
                · exact gr_drew (gr_setCell (gr_setCell HB3.out (.inl rfl) _) (.inl rfl) _)
              case measure => simp [intOf]; omega
            · have Hlt : Hid (ltR amount s ws xn yn = false) := hid (decide_eq_false hlt2)
              go_wp2_with fail
              go_roundw
              case rel =>
                refine ⟨k + 1, by omega, by omega, by go_num, ?_, HB3.out⟩
                rw [← HG.out, ins_snoc, if_neg (by rw [Hlt.out]; simp)]
                have := HO2.out
                simp only [List.append_assoc, List.cons_append, List.nil_append] at this ⊢
                exact this
              case measure => simp [intOf]; omega
      · go_wp2
        go_end0
        obtain rfl : k = n := by omega
        refine ⟨rfl, ?_, Hb.out⟩
        have := How.out
        rw [take_len _ _ Ho.out.len, List.drop_of_length_le (by rw [Ho.out.len]; exact Nat.le_refl _), List.append_nil] at this
        exact this

end Go.Proofs.Ytecboohippbliaa

/- Packed: Settle. -/
import Derived.Test.YtielicmjdhmcjaaGreatDoorRows
import Derived.Test.YtielicmjdhmcjaaGreatDoorPk22
import Derived.OwnWalk
/- settle and GainOf of the reference. -/
namespace Go.Proofs.YtielicmjdhmcjaaGreatDoor
open Go.RowKit

theorem distance_any (n : Int) (w : World) (h0 : -1000000 ≤ n) (h1 : n ≤ 1000000) :
    Calls Tryz.prog 107 #[.int .i64 n] w fun e w' => e = .returned (.int .i64 (max n (-n))) ∧ w = w' := by
  by_cases h : n < 0
  · have hb : decide (n < 0) = true := by simpa using h
    have u1 : IntKind.i64.wrap (-n) = -n := IntWalk.i64_in _ (by omega)
    have HE := hid (show -n = max n (-n) by omega)
    clear h
    go_enter Tryz.func107, Tryz.ntmps107
    go_wp2_with fail
    go_ret
    exact ⟨ret_int HE.out, rfl⟩
  · have hb : decide (n < 0) = false := by simpa using h
    have HE := hid (show n = max n (-n) by omega)
    clear h
    go_enter Tryz.func107, Tryz.ntmps107
    go_wp2_with fail
    go_ret
    exact ⟨ret_int HE.out, rfl⟩

theorem below_gr2 {w w1 w2 : World} (h : Below w.heap.size w w1) (k : w1.grownBy w2 none) : Below w.heap.size w w2 :=
  ⟨k.os.trans h.os, k.tape.trans h.tape, k.output.trans h.output, Nat.le_trans h.size k.size, fun i hi => (k.block i (Nat.lt_of_lt_of_le hi h.size) (by simp)).trans (h.block i hi)⟩
theorem below_set2 {B : Nat} {w w1 : World} (h : Below B w w1) {p : Addr} (hp : B ≤ p.block) (v : Value) : Below B w (w1.setCell p v) :=
  ⟨h.os, h.tape, h.output, by simpa [World.setCell] using h.size, fun i hi => by rw [Below.heap_setCell _ _ _ _ (by omega)]; exact h.block i hi⟩
structure StSt (w0 wr : World) (a : Addr) (n cap : Nat) (ls : List Lot) : Prop where
  s : Qs wr w0.heap.size (some a) n cap ls
  b : Below w0.heap.size w0 wr
section
variable {w0 wr : World} {a : Addr} {n cap : Nat} {ls : List Lot}
theorem StSt.grow (h : StSt w0 wr a n cap ls) {w2 : World} (k : wr.grownBy w2 none) : StSt w0 w2 a n cap ls := ⟨h.s.keep0 k, below_gr2 h.b k⟩
theorem StSt.setMany {b off : Nat} {l : Lot} (h : StSt w0 wr ⟨b, off, none⟩ n cap (l :: ls)) (m : Int) : StSt w0 (wr.setCell ⟨b, off, none⟩ (.int .i64 m)) ⟨b, off, none⟩ n cap (⟨m, l.price⟩ :: ls) := by
  obtain ⟨b', off', e, h1, _⟩ := h.s.head
  cases e
  exact ⟨h.s.setHead m, below_set2 h.b h1 _⟩
theorem StSt.tail {b off : Nat} {l : Lot} (h : StSt w0 wr ⟨b, off, none⟩ n cap (l :: ls)) : StSt w0 wr ⟨b, tailOff off cap, none⟩ (n - 1) (cap - 1) ls := ⟨h.s.tail.2, h.b⟩
end

def lenOfV (v : Value) : Nat := match v with | .slice _ n _ => n | _ => 0
set_option maxRecDepth 100000 in
set_option maxHeartbeats 4000000 in
theorem settle_any (a : Option Addr) (n cap : Nat) (xs : List Trade) (w : World) (hs : Sl tradeL w a n xs) (ht : tradesB xs = true) :
    Calls Tryz.prog 69 #[.slice a n cap] w fun e w' => ∃ v, e = .returned (.tuple #[v, .int .i64 (gainL xs).2]) ∧ w.grownBy w' none := by
  have hbig := hs.big
  unfold maxLen at hbig
  obtain ⟨i0, hi, hz0, hz1, hz2⟩ := info_parts infoLotQ
  have hl := hs.len
  have Hlt := hid (fun (h0 : 0 < n) b off (e : a = some ⟨b, off, none⟩) => (by
    obtain ⟨b', off', e', hb, _⟩ := hs.mem h0
    rw [e] at e'; cases e'
    exact hb : b < w.heap.size))
  have Hs := hid hs; clear hs
  have Hat := hid (fun k x (h : xs[k]? = some x) => trades_at ht k x h)
  have Hok0 := hid (fun k (h : k ≤ xs.length) => gain_ok ht k h)
  have hn16 := trades_len ht
  have HB0 := hid (below_gr2 (Below.refl w.heap.size w) (gr_alloc (gr0 w) (Obj.cells #[] 133)))
  clear ht
  go_enter Tryz.func69, Tryz.ntmps69
  go_wp2_with fail
  go_loopw [4, 5, 6] (fun q g i wr => ∃ (k : Nat) (ad : Addr) (n' cap' : Nat), k ≤ n ∧ i = .int .i64 k ∧ q = .slice (some ad) n' cap' ∧ g = .int .i64 (gainL (xs.take k)).2 ∧ Hid (StSt w wr ad n' cap' (gainL (xs.take k)).1)) (fun _ _ i _ => n - (intOf i).toNat)
  case atStart => exact ⟨0, ⟨w.heap.size, 0, none⟩, 0, 0, by omega, rfl, rfl, rfl, hid ⟨Qs.some0 _ _ _, HB0.out⟩⟩
  clear HB0
  case round =>
    obtain ⟨k, ad, n', cap', hk, rfl, rfl, rfl, HS⟩ := hrel
    by_cases hlt : k < n
    · have hd1 : decide ((k : Int) < n) = true := by simp; omega
      obtain ⟨b, off, ⟨xd, xm, p⟩, rfl, hxk, h0, h1, h2⟩ := trade_at (Hs.out.keepB HS.out.b Hlt.out) k hlt
      have Hx := hid hxk; clear hxk
      have hbl := Hlt.out (by omega) b off rfl
      have hpp := hid (fun (wx : World) (hb : Below w.heap.size w wx) => (by
        obtain ⟨b9, off9, x9, e9, hx9, _, _, c2⟩ := trade_at (Hs.out.keepB hb Hlt.out) k hlt
        cases e9
        rw [Hx.out] at hx9; cases hx9
        exact c2 : wx.cell? ⟨b, off + k * 3 + 2, none⟩ = some (.int .i64 p)))
      obtain ⟨_, m0, ⟨m1, m2⟩, p0, p1⟩ := trB_bd (Hat.out k _ Hx.out)
      simp only at m0 m1 m2 p0 p1
      have hL := Hok0.out k (by omega)
      have HN := hid (show gainL (xs.take (k + 1)) = takeF (gainL (xs.take k)) ⟨xd, xm, p⟩ by rw [take_snoc _ _ _ Hx.out, gain_snoc])
      generalize gainL (xs.take k) = S at *
      obtain ⟨ls0, g0⟩ := S
      have hst := hL.start xm
      have hok := hL.ok
      simp only at hst hok HS
      have HR := hid (show takeF (ls0, g0) ⟨xd, xm, p⟩ = (if (closeF p xm ls0 g0).2.1 = 0 then ((closeF p xm ls0 g0).1, (closeF p xm ls0 g0).2.2) else ((closeF p xm ls0 g0).1 ++ [⟨(closeF p xm ls0 g0).2.1, p⟩], (closeF p xm ls0 g0).2.2)) from rfl)
      generalize hC : closeF p xm ls0 g0 = C at *
      have HC0 := hid hC
      have Hok1 := hid hok
      have HW := hid (HN.out.trans HR.out)
      have hk15 : k ≤ 15 := by omega
      clear hC hok hL HN HR h0 h2
      go_wp2_with fail
      go_loopw [4, 5, 7] (fun q g l wr => ∃ (ad : Addr) (n cap : Nat) (ls : List Lot) (gi left : Int), q = .slice (some ad) n cap ∧ g = .int .i64 gi ∧ l = .int .i64 left ∧ Hid (StSt w wr ad n cap ls) ∧ Hid (∀ l ∈ ls, OkLot l) ∧ -9999 ≤ left ∧ left ≤ 9999 ∧ pot left ls gi ≤ 500000000 * ((k : Int) + 1) ∧ Hid (closeF p left ls gi = C)) (fun q _ l _ => lenOfV q + (if intOf l = 0 then 0 else 1))
      case atStart => exact ⟨ad, n', cap', ls0, g0, xm, rfl, rfl, rfl, HS, Hok1, m1, m2, hst, HC0⟩
      clear HS Hok1 hst HC0 m0 m1 m2
      case round =>
        obtain ⟨ad, n, cap, ls, g, left, rfl, rfl, rfl, HS, Hok, hl1, hl2, hpot, HC⟩ := hrel
        have hlen := HS.out.s.len
        have pp := hpp.out _ HS.out.b
        by_cases hl0 : left = 0
        · subst hl0
          have HF := hid (show gainL (xs.take (k + 1)) = (ls, g) by rw [HW.out, ← HC.out, close_zero]; rfl)
          clear hpot hlen
          go_wp2_with fail
          go_roundw
          case rel => exact ⟨k + 1, ad, n, cap, by omega, by go_num, rfl, by rw [HF.out], by rw [HF.out]; exact HS⟩
          case measure => simp [intOf]; omega
        have hlb : (left != 0) = true := by simpa using hl0
        rcases ls with _ | ⟨⟨lm, lp⟩, ls⟩
        · simp only [List.length_nil] at hlen
          subst hlen
          have HF := hid (show gainL (xs.take (k + 1)) = ([] ++ [⟨left, p⟩], g) by rw [HW.out, ← HC.out, close_nil, if_neg hl0])
          have hl9 := HS.out.s.len
          have hnc := HS.out.s.nc
          have hn16 : (0 : Int) ≤ 16 := by
            have h9 := (pot_bd hpot).2.2
            rw [hl9] at h9
            omega
          have HEnd := hid (lots_end (t := ⟨xd, xm, p⟩) Hok.out hpot hl1 hl2 p0 p1)
          have HS3 := hid (HS.out.grow (gr_alloc (gr0 wr) (Obj.cells #[.int .i64 left, .int .i64 p] 133)))
          clear hpot
          by_cases hroom : 0 + 1 ≤ cap
          · obtain ⟨qa, qo, eab, hb1, hb2, hb3, hb4, _⟩ := HS3.out.s.mem (by omega)
            cases eab
            have cc1 : (List.flatMap lotL.cells ([] : List Lot)).length = 0 * 2 := by rw [flat_len, hl9]; rfl
            have cc2 : ∀ (j : Nat) (u : Value), (List.flatMap lotL.cells ([] : List Lot))[j]? = some u → (wr.alloc (Obj.cells #[.int .i64 left, .int .i64 p] 133)).cell? ⟨qa, qo + j, none⟩ = some u := fun j u hj => by have := HS3.out.s.olds _ rfl j u hj; rwa [Addr.add_lit] at this
            have cc3 : ∀ u ∈ [Value.int .i64 left, .int .i64 p], u.oneCell' = true := by simp [Value.oneCell']
            have cc4 : 0 + 1 ≤ cap → ∀ j, j < [Value.int .i64 left, .int .i64 p].length → ((wr.alloc (Obj.cells #[.int .i64 left, .int .i64 p] 133)).cell? ⟨qa, qo + 0 * 2 + j, none⟩).isSome = true ∧ (wr.alloc (Obj.cells #[.int .i64 left, .int .i64 p] 133)).frozen? ⟨qa, qo + 0 * 2 + j, none⟩ = false := by
              intro _ j hj
              simp only [List.length_cons, List.length_nil] at hj
              refine ⟨?_, hb3 _⟩
              have := hb4 (0 * 2 + j) (by omega)
              rwa [← Nat.add_assoc] at this
            have cc5 : 0 + 1 ≤ maxLen := by unfold maxLen; omega
            go_wp2_with (at_builtin; go_must (refine wpList_append_arg _ rfl _ _ 99 rfl 133 i0 _ 2 16 Tryz.underlying99 hi hz0 hz1 hz2 rfl (by decide) qa qo 0 cap (List.flatMap lotL.cells ([] : List Lot)) rfl cc1 cc2 ⟨wr.heap.size, 0, none⟩ 1 1 [.int .i64 left, .int .i64 p] rfl rfl (lot_news _ _ _ rfl _ _) cc3 cc4 cc5 (by omega) (fun _ => ?_) (fun h => absurd h (by omega))))
            clear cc1 cc2 cc3 cc4 cc5
            have HP : Hid (StSt w (World.setCells (wr.alloc (Obj.cells #[.int .i64 left, .int .i64 p] 133)) qa (qo + 0 * 2) [.int .i64 left, .int .i64 p]) ⟨qa, qo, none⟩ (0 + 1) cap (([] : List Lot) ++ [⟨left, p⟩])) := hid ⟨HS3.out.s.push hroom ⟨left, p⟩, below_set2 (below_set2 HS3.out.b (p := ⟨qa, qo + 0 * 2, none⟩) hb1 (.int .i64 left)) (p := ⟨qa, qo + 0 * 2 + 1, none⟩) hb1 (.int .i64 p)⟩
            go_wp2_with fail
            go_roundw
            case rel => exact ⟨k + 1, _, 0 + 1, cap, by omega, by go_num, rfl, by rw [HF.out], by rw [HF.out]; exact HP⟩
            case measure => simp [intOf]; omega
          · have cc0 : some ad = none → 0 = 0 ∧ cap = 0 := fun h => by cases h
            have cc1 : (List.flatMap lotL.cells ([] : List Lot)).length = 0 * 2 := by rw [flat_len, hl9]; rfl
            have cc3 : ∀ u ∈ [Value.int .i64 left, .int .i64 p], u.oneCell' = true := by simp [Value.oneCell']
            have cc5 : 0 + 1 ≤ maxLen := by unfold maxLen; omega
            have cc6 : cap < 0 + 1 := by omega
            have cc7 : (0 + 1) * 16 ≤ 140737488355328 := by omega
            go_wp2_with (at_builtin; go_must (refine wpList_append_grows _ rfl _ _ 99 rfl 133 i0 _ 2 16 Tryz.underlying99 hi hz0 hz1 hz2 rfl (by decide) _ 0 cap (List.flatMap lotL.cells ([] : List Lot)) rfl cc0 cc1 HS3.out.s.olds ⟨wr.heap.size, 0, none⟩ 1 1 [.int .i64 left, .int .i64 p] rfl rfl (lot_news _ _ _ rfl _ _) cc3 cc6 cc5 cc7 ?_))
            clear cc0 cc1 cc3 cc5 cc6 cc7
            intro v' W5 hown hgrow
            have hown2 : W5.ownsRow (wr.heap.size + 1) 133 2 v' (0 + 1) (List.flatMap lotL.cells (([] : List Lot) ++ [⟨left, p⟩])) := by simpa [lotL] using hown
            have hB5 := below_gr2 HS3.out.b hgrow
            obtain ⟨g9, cap9, rfl, hge, hQ9⟩ := Qs.of_own hown2 (by rw [List.length_append, hl9]; rfl) (by omega) (by have h8 := hgrow.size; simp at h8; omega)
            have HP : Hid (StSt w W5 ⟨g9, 0, none⟩ (0 + 1) cap9 (([] : List Lot) ++ [⟨left, p⟩])) := hid ⟨hQ9.mono (Nat.le_trans HS3.out.b.size (by simp)), hB5⟩
            clear hown hown2 hgrow hQ9 hB5
            go_wp2_with fail
            go_roundw
            case rel => exact ⟨k + 1, _, 0 + 1, cap9, by omega, by go_num, rfl, by rw [HF.out], by rw [HF.out]; exact HP⟩
            case measure => simp [intOf]; omega
        · have hn1 : 1 ≤ n := by simp only [List.length_cons] at hlen; omega
          have hn0 : decide ((0 : Int) < n) = true := by simp; omega
          have hi0 : (0 : Int) < n := by omega
          have hi0n : 0 < n := by omega
          obtain ⟨lb, lo, e1, hlb1, hlb2, lf, l0, l1⟩ := HS.out.s.head
          simp only [Option.some.injEq] at e1
          subst e1
          have lf0 := lf lo
          clear lf
          simp only at l0 l1
          have hlk := Hok.out ⟨lm, lp⟩ (by simp)
          have hk0 := hlk.n0; have hklo := hlk.lo; have hkhi := hlk.hi; have hp0 := hlk.p0; have hp1 := hlk.p1
          simp only at hk0 hklo hkhi hp0 hp1
          by_cases hsl : 0 < left
          · have hd1 : decide (0 < left) = true := by simpa using hsl
            have hd3 : decide (left < 0) = false := by simp; omega
            by_cases hsm : 0 < lm
            · have hd2 : decide (0 < lm) = true := by simpa using hsm
              have HF := hid (show gainL (xs.take (k + 1)) = (⟨lm, lp⟩ :: ls ++ [⟨left, p⟩], g) by rw [HW.out, ← HC.out, close_stop (by unfold meets; simp only [hd1, hd2]; simp), if_neg hl0])
              clear hk0 hklo hkhi hp0 hp1 hsl hsm hlk
              have hl9 := HS.out.s.len
              have hnc := HS.out.s.nc
              have hn16 : (n : Int) ≤ 16 := by
                have h9 := (pot_bd hpot).2.2
                rw [hl9] at h9
                omega
              have HEnd := hid (lots_end (t := ⟨xd, xm, p⟩) Hok.out hpot hl1 hl2 p0 p1)
              have HS3 := hid (HS.out.grow (gr_alloc (gr0 wr) (Obj.cells #[.int .i64 left, .int .i64 p] 133)))
              clear hpot
              by_cases hroom : n + 1 ≤ cap
              · obtain ⟨qa, qo, eab, hb1, hb2, hb3, hb4, _⟩ := HS3.out.s.mem (by omega)
                cases eab
                have cc1 : (List.flatMap lotL.cells (⟨lm, lp⟩ :: ls)).length = n * 2 := by rw [flat_len, hl9]; rfl
                have cc2 : ∀ (j : Nat) (u : Value), (List.flatMap lotL.cells (⟨lm, lp⟩ :: ls))[j]? = some u → (wr.alloc (Obj.cells #[.int .i64 left, .int .i64 p] 133)).cell? ⟨lb, lo + j, none⟩ = some u := fun j u hj => by have := HS3.out.s.olds _ rfl j u hj; rwa [Addr.add_lit] at this
                have cc3 : ∀ u ∈ [Value.int .i64 left, .int .i64 p], u.oneCell' = true := by simp [Value.oneCell']
                have cc4 : n + 1 ≤ cap → ∀ j, j < [Value.int .i64 left, .int .i64 p].length → ((wr.alloc (Obj.cells #[.int .i64 left, .int .i64 p] 133)).cell? ⟨lb, lo + n * 2 + j, none⟩).isSome = true ∧ (wr.alloc (Obj.cells #[.int .i64 left, .int .i64 p] 133)).frozen? ⟨lb, lo + n * 2 + j, none⟩ = false := by
                  intro _ j hj
                  simp only [List.length_cons, List.length_nil] at hj
                  refine ⟨?_, hb3 _⟩
                  have := hb4 (n * 2 + j) (by omega)
                  rwa [← Nat.add_assoc] at this
                have cc5 : n + 1 ≤ maxLen := by unfold maxLen; omega
                go_wp2_with (at_builtin; go_must (refine wpList_append_arg _ rfl _ _ 99 rfl 133 i0 _ 2 16 Tryz.underlying99 hi hz0 hz1 hz2 rfl (by decide) lb lo n cap (List.flatMap lotL.cells (⟨lm, lp⟩ :: ls)) rfl cc1 cc2 ⟨wr.heap.size, 0, none⟩ 1 1 [.int .i64 left, .int .i64 p] rfl rfl (lot_news _ _ _ rfl _ _) cc3 cc4 cc5 (by omega) (fun _ => ?_) (fun h => absurd h (by omega))))
                clear cc1 cc2 cc3 cc4 cc5
                have HP : Hid (StSt w (World.setCells (wr.alloc (Obj.cells #[.int .i64 left, .int .i64 p] 133)) lb (lo + n * 2) [.int .i64 left, .int .i64 p]) ⟨lb, lo, none⟩ (n + 1) cap ((⟨lm, lp⟩ :: ls) ++ [⟨left, p⟩])) := hid ⟨HS3.out.s.push hroom ⟨left, p⟩, below_set2 (below_set2 HS3.out.b (p := ⟨lb, lo + n * 2, none⟩) hb1 (.int .i64 left)) (p := ⟨lb, lo + n * 2 + 1, none⟩) hb1 (.int .i64 p)⟩
                go_wp2_with fail
                go_roundw
                case rel => exact ⟨k + 1, _, n + 1, cap, by omega, by go_num, rfl, by rw [HF.out], by rw [HF.out]; exact HP⟩
                case measure => simp [intOf]; omega
              · have cc0 : some (⟨lb, lo, none⟩ : Addr) = none → n = 0 ∧ cap = 0 := fun h => by cases h
                have cc1 : (List.flatMap lotL.cells (⟨lm, lp⟩ :: ls)).length = n * 2 := by rw [flat_len, hl9]; rfl
                have cc3 : ∀ u ∈ [Value.int .i64 left, .int .i64 p], u.oneCell' = true := by simp [Value.oneCell']
                have cc5 : n + 1 ≤ maxLen := by unfold maxLen; omega
                have cc6 : cap < n + 1 := by omega
                have cc7 : (n + 1) * 16 ≤ 140737488355328 := by omega
                go_wp2_with (at_builtin; go_must (refine wpList_append_grows _ rfl _ _ 99 rfl 133 i0 _ 2 16 Tryz.underlying99 hi hz0 hz1 hz2 rfl (by decide) _ n cap (List.flatMap lotL.cells (⟨lm, lp⟩ :: ls)) rfl cc0 cc1 HS3.out.s.olds ⟨wr.heap.size, 0, none⟩ 1 1 [.int .i64 left, .int .i64 p] rfl rfl (lot_news _ _ _ rfl _ _) cc3 cc6 cc5 cc7 ?_))
                clear cc0 cc1 cc3 cc5 cc6 cc7
                intro v' W5 hown hgrow
                have hown2 : W5.ownsRow (wr.heap.size + 1) 133 2 v' (n + 1) (List.flatMap lotL.cells ((⟨lm, lp⟩ :: ls) ++ [⟨left, p⟩])) := by simpa [lotL] using hown
                have hB5 := below_gr2 HS3.out.b hgrow
                obtain ⟨g9, cap9, rfl, hge, hQ9⟩ := Qs.of_own hown2 (by rw [List.length_append, hl9]; rfl) (by omega) (by have h8 := hgrow.size; simp at h8; omega)
                have HP : Hid (StSt w W5 ⟨g9, 0, none⟩ (n + 1) cap9 ((⟨lm, lp⟩ :: ls) ++ [⟨left, p⟩])) := hid ⟨hQ9.mono (Nat.le_trans HS3.out.b.size (by simp)), hB5⟩
                clear hown hown2 hgrow hQ9 hB5
                go_wp2_with fail
                go_roundw
                case rel => exact ⟨k + 1, _, n + 1, cap9, by omega, by go_num, rfl, by rw [HF.out], by rw [HF.out]; exact HP⟩
                case measure => simp [intOf]; omega
            · have hd2 : decide (0 < lm) = false := by simpa using hsm
              have hmt : meets left ⟨lm, lp⟩ = true := by unfold meets; rw [hlb]; simp only [hd1, hd2]; rfl
              obtain ⟨_, hNb, hpart, hRb, hMb⟩ := meets_facts hmt hlk hl1 hl2
              have hGb := lotG_bd hmt hlk hl1 hl2 p0 p1
              have hgb := pot_bd hpot
              have HCd := hid (fun hz => (close_drop (g := g) (ls := ls) (p := p) hmt hz).symm.trans HC.out)
              have HCp := hid (fun hz => (close_part (g := g) (ls := ls) (p := p) hmt hz hlk hl1 hl2).symm.trans HC.out)
              have HPd := hid (Int.le_trans (pot_drop (g := g) (ls := ls) hmt hlk hl1 hl2 p0 p1) hpot)
              have HPp := hid (fun hz => Int.le_trans (pot_part (g := g) (ls := ls) (l2 := ⟨lotM left ⟨lm, lp⟩, lp⟩) hmt hz hlk hl1 hl2 p0 p1) hpot)
              have HDl := hid (fun wx => distance_any left wx (by omega) (by omega))
              have HDm := hid (fun wx => distance_any lm wx (by omega) (by omega))
              have e3 : (if max lm (-lm) < max left (-left) then max lm (-lm) else max left (-left)) = lotN left ⟨lm, lp⟩ := by unfold lotN; simp only; split <;> omega
              generalize max lm (-lm) = A at *
              generalize max left (-left) = B at *
              have v4e : lotN left ⟨lm, lp⟩ * ((lp - p)) = lotG p left ⟨lm, lp⟩ := by unfold lotG; simp only; first | rw [if_pos (by omega)] | rw [if_neg (by omega)]
              have v6e : left - lotN left ⟨lm, lp⟩ = lotR left ⟨lm, lp⟩ := by unfold lotR; first | rw [if_pos (by omega)] | rw [if_neg (by omega)]
              have v7e : lm + lotN left ⟨lm, lp⟩ = lotM left ⟨lm, lp⟩ := by unfold lotM; simp only; first | rw [if_pos (by omega)] | rw [if_neg (by omega)]
              generalize lotN left ⟨lm, lp⟩ = N at *
              generalize lotG p left ⟨lm, lp⟩ = G at *
              generalize lotR left ⟨lm, lp⟩ = L2 at *
              generalize lotM left ⟨lm, lp⟩ = M at *
              have v3 : IntKind.i64.wrap ((lp - p)) = (lp - p) := IntWalk.i64_in _ (by omega)
              have v4 : IntKind.i64.wrap (N * ((lp - p))) = G := by rw [v4e]; exact IntWalk.i64_in _ (by omega)
              have v5 : IntKind.i64.wrap (g + G) = g + G := IntWalk.i64_in _ (by omega)
              have v6 : IntKind.i64.wrap (left - N) = L2 := by rw [v6e]; exact IntWalk.i64_in _ (by omega)
              have v7 : IntKind.i64.wrap (lm + N) = M := by rw [v7e]; exact IntWalk.i64_in _ (by omega)
              clear v4e v6e v7e hGb hgb hpot hmt HC
              go_wp2_with fail
              go_quiet (first | (go_at_call 107; first | exact Calls.quiet_of_same (flipW (HDl.out _)) | exact Calls.quiet_of_same (flipW (HDm.out _))))
              have HS2 := hid (HS.out.grow (gr_drewN (gr0 wr) nq))
              generalize (wr.drewN nq) = W2 at *
              clear l0 l1 lf0 pp HS HDl HDm
              obtain ⟨b9, off9, e9, _, _, lf, l0, l1⟩ := HS2.out.s.head
              simp only [Option.some.injEq, Addr.mk.injEq, and_true] at e9
              obtain ⟨rfl, rfl⟩ := e9
              have lf0 := lf lo
              clear lf
              simp only at l0 l1
              have pp := hpp.out W2 HS2.out.b
              go_wp2_with fail
              go_quiet (fail)
              have HS3 := hid (HS2.out.grow (gr_drewN (gr0 W2) nq))
              generalize (W2.drewN nq) = W3 at *
              clear l0 l1 lf0 pp HS2
              obtain ⟨b9, off9, e9, _, _, lf, l0, l1⟩ := HS3.out.s.head
              simp only [Option.some.injEq, Addr.mk.injEq, and_true] at e9
              obtain ⟨rfl, rfl⟩ := e9
              have lf0 := lf lo
              clear lf
              simp only at l0 l1
              have pp := hpp.out W3 HS3.out.b
              have hncl := HS3.out.s.nc
              have hsl3 := HS3.out.s.tail.1
              have HSm := hid (HS3.out.setMany M)
              by_cases hz : M = 0
              · have hzb : (M == 0) = true := by simpa using hz
                have HSd := hid HSm.out.tail
                have HCn := hid (HCd.out hz)
                clear hz HCd HCp HPp hpart hMb hlk hk0 hklo hkhi hp0 hp1 HSm HS3
                go_wp2_with fail
                go_roundw
                case rel => exact ⟨_, n - 1, cap - 1, ls, g + G, L2, rfl, rfl, rfl, HSd, hid (fun l hl => Hok.out l (by simp [hl])), hRb.2, hRb.1, HPd.out, HCn⟩
                case measure =>
                  by_cases hL2 : L2 = 0
                  · simp [intOf, lenOfV, hl0, hL2]; omega
                  · simp [intOf, lenOfV, hl0, hL2]; omega
              · have hzb : (M == 0) = false := by simpa using hz
                have HCn := hid (HCp.out hz)
                have HPn := hid (HPp.out hz)
                have HL20 := hid (hpart hz)
                have Hokn : Hid (∀ l ∈ (⟨M, lp⟩ :: ls : List Lot), OkLot l) := hid (fun l hl => by
                  rcases List.mem_cons.1 hl with rfl | hl
                  · exact ⟨hz, hMb.2, hMb.1, hp0, hp1⟩
                  · exact Hok.out l (by simp [hl]))
                clear hz HCd HCp HPp HPd hMb hlk hk0 hklo hkhi hp0 hp1 HS3 hsl3 hpart
                go_wp2_with fail
                go_roundw
                case rel => exact ⟨_, n, cap, ⟨M, lp⟩ :: ls, g + G, L2, rfl, rfl, rfl, HSm, Hokn, hRb.2, hRb.1, HPn.out, HCn⟩
                case measure => rw [HL20.out]; simp [intOf, lenOfV, hl0]
          · have hd1 : decide (0 < left) = false := by simpa using hsl
            have hd3 : decide (left < 0) = true := by simp; omega
            by_cases hsm : 0 < lm
            · have hd2 : decide (0 < lm) = true := by simpa using hsm
              have hmt : meets left ⟨lm, lp⟩ = true := by unfold meets; rw [hlb]; simp only [hd1, hd2]; rfl
              obtain ⟨_, hNb, hpart, hRb, hMb⟩ := meets_facts hmt hlk hl1 hl2
              have hGb := lotG_bd hmt hlk hl1 hl2 p0 p1
              have hgb := pot_bd hpot
              have HCd := hid (fun hz => (close_drop (g := g) (ls := ls) (p := p) hmt hz).symm.trans HC.out)
              have HCp := hid (fun hz => (close_part (g := g) (ls := ls) (p := p) hmt hz hlk hl1 hl2).symm.trans HC.out)
              have HPd := hid (Int.le_trans (pot_drop (g := g) (ls := ls) hmt hlk hl1 hl2 p0 p1) hpot)
              have HPp := hid (fun hz => Int.le_trans (pot_part (g := g) (ls := ls) (l2 := ⟨lotM left ⟨lm, lp⟩, lp⟩) hmt hz hlk hl1 hl2 p0 p1) hpot)
              have HDl := hid (fun wx => distance_any left wx (by omega) (by omega))
              have HDm := hid (fun wx => distance_any lm wx (by omega) (by omega))
              have e3 : (if max lm (-lm) < max left (-left) then max lm (-lm) else max left (-left)) = lotN left ⟨lm, lp⟩ := by unfold lotN; simp only; split <;> omega
              generalize max lm (-lm) = A at *
              generalize max left (-left) = B at *
              have v4e : lotN left ⟨lm, lp⟩ * ((p - lp)) = lotG p left ⟨lm, lp⟩ := by unfold lotG; simp only; first | rw [if_pos (by omega)] | rw [if_neg (by omega)]
              have v6e : left + lotN left ⟨lm, lp⟩ = lotR left ⟨lm, lp⟩ := by unfold lotR; first | rw [if_pos (by omega)] | rw [if_neg (by omega)]
              have v7e : lm - lotN left ⟨lm, lp⟩ = lotM left ⟨lm, lp⟩ := by unfold lotM; simp only; first | rw [if_pos (by omega)] | rw [if_neg (by omega)]
              generalize lotN left ⟨lm, lp⟩ = N at *
              generalize lotG p left ⟨lm, lp⟩ = G at *
              generalize lotR left ⟨lm, lp⟩ = L2 at *
              generalize lotM left ⟨lm, lp⟩ = M at *
              have v3 : IntKind.i64.wrap ((p - lp)) = (p - lp) := IntWalk.i64_in _ (by omega)
              have v4 : IntKind.i64.wrap (N * ((p - lp))) = G := by rw [v4e]; exact IntWalk.i64_in _ (by omega)
              have v5 : IntKind.i64.wrap (g + G) = g + G := IntWalk.i64_in _ (by omega)
              have v6 : IntKind.i64.wrap (left + N) = L2 := by rw [v6e]; exact IntWalk.i64_in _ (by omega)
              have v7 : IntKind.i64.wrap (lm - N) = M := by rw [v7e]; exact IntWalk.i64_in _ (by omega)
              clear v4e v6e v7e hGb hgb hpot hmt HC
              go_wp2_with fail
              go_quiet (first | (go_at_call 107; first | exact Calls.quiet_of_same (flipW (HDl.out _)) | exact Calls.quiet_of_same (flipW (HDm.out _))))
              have HS2 := hid (HS.out.grow (gr_drewN (gr0 wr) nq))
              generalize (wr.drewN nq) = W2 at *
              clear l0 l1 lf0 pp HS HDl HDm
              obtain ⟨b9, off9, e9, _, _, lf, l0, l1⟩ := HS2.out.s.head
              simp only [Option.some.injEq, Addr.mk.injEq, and_true] at e9
              obtain ⟨rfl, rfl⟩ := e9
              have lf0 := lf lo
              clear lf
              simp only at l0 l1
              have pp := hpp.out W2 HS2.out.b
              go_wp2_with fail
              go_quiet (fail)
              have HS3 := hid (HS2.out.grow (gr_drewN (gr0 W2) nq))
              generalize (W2.drewN nq) = W3 at *
              clear l0 l1 lf0 pp HS2
              obtain ⟨b9, off9, e9, _, _, lf, l0, l1⟩ := HS3.out.s.head
              simp only [Option.some.injEq, Addr.mk.injEq, and_true] at e9
              obtain ⟨rfl, rfl⟩ := e9
              have lf0 := lf lo
              clear lf
              simp only at l0 l1
              have pp := hpp.out W3 HS3.out.b
              have hncl := HS3.out.s.nc
              have hsl3 := HS3.out.s.tail.1
              have HSm := hid (HS3.out.setMany M)
              by_cases hz : M = 0
              · have hzb : (M == 0) = true := by simpa using hz
                have HSd := hid HSm.out.tail
                have HCn := hid (HCd.out hz)
                clear hz HCd HCp HPp hpart hMb hlk hk0 hklo hkhi hp0 hp1 HSm HS3
                go_wp2_with fail
                go_roundw
                case rel => exact ⟨_, n - 1, cap - 1, ls, g + G, L2, rfl, rfl, rfl, HSd, hid (fun l hl => Hok.out l (by simp [hl])), hRb.2, hRb.1, HPd.out, HCn⟩
                case measure =>
                  by_cases hL2 : L2 = 0
                  · simp [intOf, lenOfV, hl0, hL2]; omega
                  · simp [intOf, lenOfV, hl0, hL2]; omega
              · have hzb : (M == 0) = false := by simpa using hz
                have HCn := hid (HCp.out hz)
                have HPn := hid (HPp.out hz)
                have HL20 := hid (hpart hz)
                have Hokn : Hid (∀ l ∈ (⟨M, lp⟩ :: ls : List Lot), OkLot l) := hid (fun l hl => by
                  rcases List.mem_cons.1 hl with rfl | hl
                  · exact ⟨hz, hMb.2, hMb.1, hp0, hp1⟩
                  · exact Hok.out l (by simp [hl]))
                clear hz HCd HCp HPp HPd hMb hlk hk0 hklo hkhi hp0 hp1 HS3 hsl3 hpart
                go_wp2_with fail
                go_roundw
                case rel => exact ⟨_, n, cap, ⟨M, lp⟩ :: ls, g + G, L2, rfl, rfl, rfl, HSm, Hokn, hRb.2, hRb.1, HPn.out, HCn⟩
                case measure => rw [HL20.out]; simp [intOf, lenOfV, hl0]
            · have hd2 : decide (0 < lm) = false := by simpa using hsm
              have HF := hid (show gainL (xs.take (k + 1)) = (⟨lm, lp⟩ :: ls ++ [⟨left, p⟩], g) by rw [HW.out, ← HC.out, close_stop (by unfold meets; simp only [hd1, hd2]; simp), if_neg hl0])
              clear hk0 hklo hkhi hp0 hp1 hsl hsm hlk
              have hl9 := HS.out.s.len
              have hnc := HS.out.s.nc
              have hn16 : (n : Int) ≤ 16 := by
                have h9 := (pot_bd hpot).2.2
                rw [hl9] at h9
                omega
              have HEnd := hid (lots_end (t := ⟨xd, xm, p⟩) Hok.out hpot hl1 hl2 p0 p1)
              have HS3 := hid (HS.out.grow (gr_alloc (gr0 wr) (Obj.cells #[.int .i64 left, .int .i64 p] 133)))
              clear hpot
              by_cases hroom : n + 1 ≤ cap
              · obtain ⟨qa, qo, eab, hb1, hb2, hb3, hb4, _⟩ := HS3.out.s.mem (by omega)
                cases eab
                have cc1 : (List.flatMap lotL.cells (⟨lm, lp⟩ :: ls)).length = n * 2 := by rw [flat_len, hl9]; rfl
                have cc2 : ∀ (j : Nat) (u : Value), (List.flatMap lotL.cells (⟨lm, lp⟩ :: ls))[j]? = some u → (wr.alloc (Obj.cells #[.int .i64 left, .int .i64 p] 133)).cell? ⟨lb, lo + j, none⟩ = some u := fun j u hj => by have := HS3.out.s.olds _ rfl j u hj; rwa [Addr.add_lit] at this
                have cc3 : ∀ u ∈ [Value.int .i64 left, .int .i64 p], u.oneCell' = true := by simp [Value.oneCell']
                have cc4 : n + 1 ≤ cap → ∀ j, j < [Value.int .i64 left, .int .i64 p].length → ((wr.alloc (Obj.cells #[.int .i64 left, .int .i64 p] 133)).cell? ⟨lb, lo + n * 2 + j, none⟩).isSome = true ∧ (wr.alloc (Obj.cells #[.int .i64 left, .int .i64 p] 133)).frozen? ⟨lb, lo + n * 2 + j, none⟩ = false := by
                  intro _ j hj
                  simp only [List.length_cons, List.length_nil] at hj
                  refine ⟨?_, hb3 _⟩
                  have := hb4 (n * 2 + j) (by omega)
                  rwa [← Nat.add_assoc] at this
                have cc5 : n + 1 ≤ maxLen := by unfold maxLen; omega
                go_wp2_with (at_builtin; go_must (refine wpList_append_arg _ rfl _ _ 99 rfl 133 i0 _ 2 16 Tryz.underlying99 hi hz0 hz1 hz2 rfl (by decide) lb lo n cap (List.flatMap lotL.cells (⟨lm, lp⟩ :: ls)) rfl cc1 cc2 ⟨wr.heap.size, 0, none⟩ 1 1 [.int .i64 left, .int .i64 p] rfl rfl (lot_news _ _ _ rfl _ _) cc3 cc4 cc5 (by omega) (fun _ => ?_) (fun h => absurd h (by omega))))
                clear cc1 cc2 cc3 cc4 cc5
                have HP : Hid (StSt w (World.setCells (wr.alloc (Obj.cells #[.int .i64 left, .int .i64 p] 133)) lb (lo + n * 2) [.int .i64 left, .int .i64 p]) ⟨lb, lo, none⟩ (n + 1) cap ((⟨lm, lp⟩ :: ls) ++ [⟨left, p⟩])) := hid ⟨HS3.out.s.push hroom ⟨left, p⟩, below_set2 (below_set2 HS3.out.b (p := ⟨lb, lo + n * 2, none⟩) hb1 (.int .i64 left)) (p := ⟨lb, lo + n * 2 + 1, none⟩) hb1 (.int .i64 p)⟩
                go_wp2_with fail
                go_roundw
                case rel => exact ⟨k + 1, _, n + 1, cap, by omega, by go_num, rfl, by rw [HF.out], by rw [HF.out]; exact HP⟩
                case measure => simp [intOf]; omega
              · have cc0 : some (⟨lb, lo, none⟩ : Addr) = none → n = 0 ∧ cap = 0 := fun h => by cases h
                have cc1 : (List.flatMap lotL.cells (⟨lm, lp⟩ :: ls)).length = n * 2 := by rw [flat_len, hl9]; rfl
                have cc3 : ∀ u ∈ [Value.int .i64 left, .int .i64 p], u.oneCell' = true := by simp [Value.oneCell']
                have cc5 : n + 1 ≤ maxLen := by unfold maxLen; omega
                have cc6 : cap < n + 1 := by omega
                have cc7 : (n + 1) * 16 ≤ 140737488355328 := by omega
                go_wp2_with (at_builtin; go_must (refine wpList_append_grows _ rfl _ _ 99 rfl 133 i0 _ 2 16 Tryz.underlying99 hi hz0 hz1 hz2 rfl (by decide) _ n cap (List.flatMap lotL.cells (⟨lm, lp⟩ :: ls)) rfl cc0 cc1 HS3.out.s.olds ⟨wr.heap.size, 0, none⟩ 1 1 [.int .i64 left, .int .i64 p] rfl rfl (lot_news _ _ _ rfl _ _) cc3 cc6 cc5 cc7 ?_))
                clear cc0 cc1 cc3 cc5 cc6 cc7
                intro v' W5 hown hgrow
                have hown2 : W5.ownsRow (wr.heap.size + 1) 133 2 v' (n + 1) (List.flatMap lotL.cells ((⟨lm, lp⟩ :: ls) ++ [⟨left, p⟩])) := by simpa [lotL] using hown
                have hB5 := below_gr2 HS3.out.b hgrow
                obtain ⟨g9, cap9, rfl, hge, hQ9⟩ := Qs.of_own hown2 (by rw [List.length_append, hl9]; rfl) (by omega) (by have h8 := hgrow.size; simp at h8; omega)
                have HP : Hid (StSt w W5 ⟨g9, 0, none⟩ (n + 1) cap9 ((⟨lm, lp⟩ :: ls) ++ [⟨left, p⟩])) := hid ⟨hQ9.mono (Nat.le_trans HS3.out.b.size (by simp)), hB5⟩
                clear hown hown2 hgrow hQ9 hB5
                go_wp2_with fail
                go_roundw
                case rel => exact ⟨k + 1, _, n + 1, cap9, by omega, by go_num, rfl, by rw [HF.out], by rw [HF.out]; exact HP⟩
                case measure => simp [intOf]; omega
    · have hd1 : decide ((k : Int) < n) = false := by simp; omega
      obtain rfl : k = n := by omega
      rw [take_len _ _ hl] at HS ⊢
      have hnc := HS.out.s.nc
      have hcm := HS.out.s.cm
      have hl9 := HS.out.s.len
      have hn17 : n' ≤ 17 := by
        have h9 := (pot_bd (Hok0.out k (by omega)).bd).2.2
        rw [take_len _ _ hl, hl9] at h9
        omega
      have HB := hid (below_gr2 HS.out.b (gr_alloc (gr0 wr) (Obj.cells #[] 133)))
      have HO := hid (HS.out.s.keep0 (gr_alloc (gr0 wr) (Obj.cells #[] 133))).olds
      generalize (gainL xs).1 = ls at *
      generalize hG : (gainL xs).2 = G at *
      have HG := hid hG
      clear hG
      by_cases hn0 : n' = 0
      · have ls0 : ls = [] := List.eq_nil_of_length_eq_zero (by omega)
        subst ls0
        subst hn0
        have cc2 : ∀ (j : Nat) (u : Value), ([] : List Value)[j]? = some u → (wr.alloc (Obj.cells #[] 133)).cell? ⟨wr.heap.size, 0 + j, none⟩ = some u := fun j u hj => by simp at hj
        have cc3 : ∀ (j : Nat) (u : Value), ([] : List Value)[j]? = some u → (wr.alloc (Obj.cells #[] 133)).cell? (ad.add j) = some u := fun j u hj => by simp at hj
        have cc4 : ∀ u ∈ ([] : List Value), u.oneCell' = true := by simp
        have cc5 : 0 + 0 ≤ 0 → ∀ j, j < ([] : List Value).length → ((wr.alloc (Obj.cells #[] 133)).cell? ⟨wr.heap.size, 0 + 0 * 2 + j, none⟩).isSome = true ∧ (wr.alloc (Obj.cells #[] 133)).frozen? ⟨wr.heap.size, 0 + 0 * 2 + j, none⟩ = false := fun _ j hj => by simp at hj
        have cc6 : 0 + 0 ≤ maxLen := by unfold maxLen; omega
        go_wp2_with (at_builtin; go_must (refine wpList_append_arg _ rfl _ _ 99 rfl 133 i0 _ 2 16 Tryz.underlying99 hi hz0 hz1 hz2 rfl (by decide) wr.heap.size 0 0 0 [] rfl rfl cc2 ad 0 cap' [] rfl rfl cc3 cc4 cc5 cc6 (by omega) (fun _ => ?_) (fun h => absurd h (by omega))))
        clear cc2 cc3 cc4 cc5 cc6
        go_wp2_with fail
        go_ret2
        rw [HG.out]
        exact ⟨_, rfl, gr_below HB.out (Nat.le_refl _)⟩
      · have cc0 : some (⟨wr.heap.size, 0, none⟩ : Addr) = none → 0 = 0 ∧ 0 = 0 := fun h => by cases h
        have cc1 : ∀ b, some (⟨wr.heap.size, 0, none⟩ : Addr) = some b → ∀ (j : Nat) (u : Value), ([] : List Value)[j]? = some u → (wr.alloc (Obj.cells #[] 133)).cell? (b.add j) = some u := fun b _ j u hj => by simp at hj
        have cc2 : (List.flatMap lotL.cells ls).length = n' * 2 := by rw [flat_len, hl9]; rfl
        have cc3 : ∀ u ∈ List.flatMap lotL.cells ls, u.oneCell' = true := by
          intro u hu
          obtain ⟨x, _, hx⟩ := List.mem_flatMap.1 hu
          simp only [lotL, List.mem_cons, List.not_mem_nil, or_false] at hx
          rcases hx with rfl | rfl <;> rfl
        have cc4 : 0 < 0 + n' := by omega
        have cc5 : 0 + n' ≤ maxLen := by unfold maxLen; omega
        have cc6 : (0 + n') * 16 ≤ 140737488355328 := by omega
        have HO2 := HO.out ad rfl
        go_wp2_with (at_builtin; go_must (refine wpList_append_grows _ rfl _ _ 99 rfl 133 i0 _ 2 16 Tryz.underlying99 hi hz0 hz1 hz2 rfl (by decide) _ 0 0 [] rfl cc0 rfl cc1 ad n' cap' (List.flatMap lotL.cells ls) rfl cc2 HO2 cc3 cc4 cc5 cc6 ?_))
        intro v' W5 hown hgrow
        have HB5 := hid (below_gr2 HB.out hgrow)
        clear cc0 cc1 cc2 cc3 cc4 cc5 cc6 hown hgrow HO2
        go_wp2_with fail
        go_ret2
        rw [HG.out]
        exact ⟨_, rfl, gr_below HB5.out (Nat.le_refl _)⟩

set_option maxHeartbeats 1000000 in
theorem specGainOf_any (a : Option Addr) (n cap : Nat) (xs : List Trade) (w : World) (hs : Sl tradeL w a n xs) :
    Calls Tryz.prog 42 #[.slice a n cap] w fun e w' => e = .returned (.int .i64 (gainF xs)) ∧ w.grownBy w' none := by
  have HV := hid (specvalidTrades_any a n cap xs w hs)
  cases ht : tradesB xs with
  | false =>
    have HT := hid (show gainF xs = 0 by unfold gainF; rw [ht]; rfl)
    rw [ht] at HV
    clear ht
    go_enter Tryz.func42, Tryz.ntmps42
    go_wp2_with fail
    refine HV.out.mono ?_
    rintro e w1 ⟨rfl, hg⟩
    have Hg := hid hg; clear hg
    go_wp2_with fail
    go_ret
    exact ⟨ret_int HT.out.symm, Hg.out⟩
  | true =>
    have HT := hid (show gainF xs = (gainL xs).2 by unfold gainF; rw [ht]; rfl)
    have HS := hid (fun wx (h : Sl tradeL wx a n xs) => settle_any a n cap xs wx h ht)
    have Hs := hid hs
    rw [ht] at HV
    clear ht hs
    go_enter Tryz.func42, Tryz.ntmps42
    go_wp2_with fail
    refine HV.out.mono ?_
    rintro e w1 ⟨rfl, hg⟩
    have Hg := hid hg
    have Hs1 := hid (Hs.out.keep0 hg)
    clear hg
    go_wp2_with fail
    refine (HS.out _ Hs1.out).mono ?_
    rintro e w2 ⟨v, rfl, hg⟩
    have Hg2 := hid (gr_trans0 Hg.out hg)
    clear hg
    go_wp2_with fail
    go_ret
    exact ⟨ret_int HT.out.symm, Hg2.out⟩
end Go.Proofs.YtielicmjdhmcjaaGreatDoor

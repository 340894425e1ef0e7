/- The program's shares: the whole function. -/
import Derived.Test.YtecboohippbliaaRows
import Derived.Test.YtecboohippbliaaBase
import Derived.Test.YtecboohippbliaaInts
import Derived.Test.YtecboohippbliaaShares
import Derived.Deep.QuietTactic
import Derived.BigQuiet
import Derived.Deep.RegionLaw
import Derived.Deep.DeepCutAuto
namespace Go.Proofs.Ytecboohippbliaa
open Go.RowKit

theorem infoI : (Try.prog.info? 3).map (fun i => (i.zero, i.size, i.bytes)) = some (some (.int .i64 0), 1, 8) := by kernel_rfl

/-- The sum as the machine forms it. -/
def tot (xs : List Int) : Int := xs.foldl (fun a x => wrap64 (a + x)) 0
theorem tot_take (xs : List Int) (k : Nat) (x : Int) (hx : xs[k]? = some x) : tot (xs.take (k + 1)) = wrap64 (tot (xs.take k) + x) := by
  unfold tot; rw [take_snoc _ _ _ hx, List.foldl_append]; rfl
set_option maxRecDepth 100000 in
theorem tot_eq (xs : List Int) (lo hi : Int) (h : ∀ x ∈ xs, lo ≤ x ∧ x ≤ hi) (h1 : -1000000000000 ≤ lo) (h2 : hi ≤ 1000000000000) (hlo : lo ≤ 0) (_hhi : 0 ≤ hi) (hl : xs.length ≤ 1000) : tot xs = sumI xs := by
  have key : ∀ k, k ≤ xs.length → tot (xs.take k) = sumI (xs.take k) := by
    intro k
    induction k with
    | zero => intro _; rfl
    | succ k ih =>
      intro hk
      have hx : xs[k]? = some (xs[k]'(by omega)) := by simp
      rw [tot_take _ _ _ hx, ih (by omega), sumI_take _ _ _ hx]
      have hb := sumI_bound (xs.take (k + 1)) lo hi (fun x hx => h x (List.mem_of_mem_take hx))
      rw [sumI_take _ _ _ hx, List.length_take] at hb
      have e : min (k + 1) xs.length = k + 1 := by omega
      rw [e] at hb
      have b1 : -1000000000000 * 1000 ≤ lo * ((k + 1 : Nat) : Int) := by
        have h := Int.mul_le_mul (a := -lo) (b := ((k + 1 : Nat) : Int)) (c := 1000000000000) (d := 1000) (by omega) (by omega) (by omega) (by omega)
        rw [Int.neg_mul] at h
        omega
      have b2 : hi * ((k + 1 : Nat) : Int) ≤ 1000000000000 * 1000 := Int.mul_le_mul h2 (by omega) (by omega) (by omega)
      exact IntWalk.wrap64_in _ (by omega)
  have := key xs.length (Nat.le_refl _)
  rwa [List.take_length] at this

set_option maxRecDepth 100000 in
set_option maxHeartbeats 400000 in
theorem total_any (a : Option Addr) (n cap : Nat) (xs : List Int) (w : World) (hs : Sl intL w a n xs) :
    Calls Try.prog 50 #[.slice a n cap] w fun e w' => e = .returned (.int .i64 (tot xs)) ∧ w' = w := by
  have hbig := hs.big
  unfold maxLen at hbig
  have Hs := hid hs; clear hs
  go_enter Try.func50, Try.ntmps50
  go_wp2_with fail
  go_loop [3, 8] (fun q i => ∃ (k : Nat), k ≤ n ∧ i = .int .i64 k ∧ q = .int .i64 (tot (xs.take k))) (fun _ i => n - (intOf i).toNat)
  case atStart => exact ⟨0, by omega, rfl, rfl⟩
  case round =>
    obtain ⟨k, hk, rfl, rfl⟩ := hrel
    by_cases hlt : k < n
    · obtain ⟨b, off, x, rfl, hxk, h0⟩ := int_at Hs.out k hlt
      have Hsx := hid (tot_take _ _ _ hxk)
      clear hxk
      generalize tot (xs.take k) = acc at *
      go_wp2
      go_round
      case rel => exact ⟨k + 1, by omega, by go_num, by rw [Hsx.out]⟩
      case measure => simp [intOf]; omega
    · go_wp2
      go_ret
      obtain rfl : k = n := by omega
      exact ⟨ret_int (by rw [take_len _ _ Hs.out.len]), rfl⟩

set_option maxRecDepth 100000 in
theorem stableCmp_any (g cap2 ab wb sb B n cap : Nat) (amount s : Int) (a : Option Addr) (ws xs : List Int) (w : World) (h : ShIn w ab wb sb amount s a n cap ws)
    (h1 : ab < B) (h2 : wb < B) (h3 : sb < B) (h4 : 0 < n → ∀ b off, a = some ⟨b, off, none⟩ → b < B) (hB : B ≤ w.heap.size)
    (ho : Ow intL w B (some ⟨g, 0, none⟩) n xs) (hn : n ≤ 19) (hx : ∀ x ∈ xs, 0 ≤ x ∧ x < n)
    (ha0 : 0 ≤ amount) (ha1 : amount ≤ 1000000000) (hw : ∀ x ∈ ws, 0 ≤ x ∧ x ≤ 9999) (hs : 0 < s) :
    Calls Try.prog 84 #[.slice (some ⟨g, 0, none⟩) n cap2, .int .i64 n, .func (.func 75) #[] #[.pointer (some ⟨ab, 0, none⟩), .pointer (some ⟨wb, 0, none⟩), .pointer (some ⟨sb, 0, none⟩)]] w
      fun e w' => e = .returned (.tuple #[]) ∧ Ow intL w' B (some ⟨g, 0, none⟩) n (isort (ltR amount s ws) xs) ∧ w.grownBy w' (some g) := by
  have I := hid (insertionSort_any g cap2 ab wb sb B n cap amount s a ws xs w h h1 h2 h3 h4 hB ho (by omega) hx ha0 ha1 hw hs)
  clear h h4 ho hx hw
  go_enter Try.func84, Try.ntmps84
  go_wp2_with fail
  go_loop [7, 8] (fun a b => a = .int .i64 0 ∧ b = .int .i64 20) (fun _ _ => 0)
  case atStart => exact ⟨rfl, rfl⟩
  case round =>
    obtain ⟨rfl, rfl⟩ := hrel
    go_wp2_with fail
    refine I.out.mono ?_
    rintro e w' ⟨rfl, ho', hb'⟩
    have Ho' := hid ho'; clear ho'
    have Hb' := hid hb'; clear hb'
    go_wp2_with fail
    go_loop [6] (fun b => b = .int .i64 20) (fun _ => 0)
    case atStart => rfl
    case round =>
      subst hrel
      go_wp2_with fail
      go_end0
      exact ⟨rfl, Ho'.out, Hb'.out⟩

set_option maxRecDepth 100000 in
theorem SortStable_any (g cap2 ab wb sb B n cap : Nat) (amount s : Int) (a : Option Addr) (ws xs : List Int) (w : World) (h : ShIn w ab wb sb amount s a n cap ws)
    (h1 : ab < B) (h2 : wb < B) (h3 : sb < B) (h4 : 0 < n → ∀ b off, a = some ⟨b, off, none⟩ → b < B) (hB : B ≤ w.heap.size)
    (ho : Ow intL w B (some ⟨g, 0, none⟩) n xs) (hn : n ≤ 19) (hx : ∀ x ∈ xs, 0 ≤ x ∧ x < n)
    (ha0 : 0 ≤ amount) (ha1 : amount ≤ 1000000000) (hw : ∀ x ∈ ws, 0 ≤ x ∧ x ≤ 9999) (hs : 0 < s) :
    Calls Try.prog 74 #[.slice (some ⟨g, 0, none⟩) n cap2, .func (.func 75) #[] #[.pointer (some ⟨ab, 0, none⟩), .pointer (some ⟨wb, 0, none⟩), .pointer (some ⟨sb, 0, none⟩)]] w
      fun e w' => e = .returned (.tuple #[]) ∧ Ow intL w' B (some ⟨g, 0, none⟩) n (isort (ltR amount s ws) xs) ∧ w.grownBy w' (some g) := by
  have I := hid (stableCmp_any g cap2 ab wb sb B n cap amount s a ws xs w h h1 h2 h3 h4 hB ho hn hx ha0 ha1 hw hs)
  clear h h4 ho hx hw
  go_enter Try.func74, Try.ntmps74
  go_wp2_with fail
  refine I.out.mono ?_
  rintro e w' ⟨rfl, ho', hb'⟩
  have Ho' := hid ho'; clear ho'
  have Hb' := hid hb'; clear hb'
  go_wp2_with fail
  go_end0
  exact ⟨rfl, Ho'.out, Hb'.out⟩

def bump (l : List Int) (i : Int) : List Int := l.set i.toNat (l.getD i.toNat 0 + 1)
def quos (amount : Int) (ws : List Int) : List Int := ws.map fun w => amount * w / sumI ws
def orderOf (amount : Int) (ws : List Int) : List Int := isort (ltR amount (sumI ws) ws) (upFrom 0 ws.length)
def leftOf (amount : Int) (ws : List Int) : Nat := (amount - sumI (quos amount ws)).toNat
def sharesF (amount : Int) (ws : List Int) : List Int := ((orderOf amount ws).take (leftOf amount ws)).foldl bump (quos amount ws)

set_option maxRecDepth 100000 in
set_option maxHeartbeats 1000000 in
theorem shares_any (amount : Int) (a : Option Addr) (n cap : Nat) (ws : List Int) (w : World) (hsl : Sl intL w a n ws) (hn : n ≤ 19) (ha0 : 0 ≤ amount) (ha1 : amount ≤ 1000000000) (hw : ∀ x ∈ ws, 0 ≤ x ∧ x ≤ 9999) (hs : 0 < sumI ws)
    (hl0 : 0 ≤ amount - sumI (quos amount ws)) (hl1 : amount - sumI (quos amount ws) ≤ n) (hq : ∀ x ∈ quos amount ws, 0 ≤ x ∧ x ≤ 1000000000) :
    Calls Try.prog 51 #[.int .i64 amount, .slice a n cap] w fun e w' => ∃ a' cap', e = .returned (.slice a' n cap') ∧ Ow intL w' w.heap.size a' n (sharesF amount ws) ∧ n ≤ cap' ∧ w.grownBy w' none := by
  obtain ⟨i0, hi, hz0, hz1, hz2⟩ := info_parts infoI
  have Hsl := hid hsl; clear hsl
  have Hw := hid hw; clear hw
  have Hq := hid hq; clear hq
  have htot := tot_eq ws 0 9999 Hw.out (by omega) (by omega) (by omega) (by omega) (by rw [Hsl.out.len]; omega)
  have Htot := hid htot; clear htot
  have htq := tot_eq (quos amount ws) 0 1000000000 Hq.out (by omega) (by omega) (by omega) (by omega) (by unfold quos; rw [List.length_map, Hsl.out.len]; omega)
  have Htq := hid htq; clear htq
  go_enter Try.func51, Try.ntmps51
  go_wp2_with fail
  refine (total_any a n cap ws _ (Hsl.out.keep0 (gr_alloc (gr_alloc (gr0 _) _) _))).mono ?_
  rintro e w1 ⟨rfl, rfl⟩
  rw [Htot.out]
  generalize hsum : sumI ws = s at *
  have Hsum := hid hsum; clear hsum
  have hsb : s ≤ 1000000 := by
    have h1 := sumI_bound ws 0 9999 Hw.out
    have h2 := Hsl.out.len
    have h3 := Hsum.out
    omega
  go_upto_region 2 with fail
  have hsh : ShIn (((w.alloc (Obj.cells #[Value.int IntKind.i64 amount] 3)).alloc (Obj.cells #[Value.slice a n cap] 22)).alloc (Obj.cells #[Value.int IntKind.i64 s] 3)) w.heap.size (w.heap.size + 1) (w.heap.size + 2) amount s a n cap ws :=
    ⟨by go_simp, by go_simp, by go_simp, Hsl.out.keep0 (gr_alloc (gr_alloc (gr_alloc (gr0 _) _) _) _)⟩
  have hgW : w.grownBy (((w.alloc (Obj.cells #[Value.int IntKind.i64 amount] 3)).alloc (Obj.cells #[Value.slice a n cap] 22)).alloc (Obj.cells #[Value.int IntKind.i64 s] 3)) none := gr_alloc (gr_alloc (gr_alloc (gr0 _) _) _) _
  have hsW : (((w.alloc (Obj.cells #[Value.int IntKind.i64 amount] 3)).alloc (Obj.cells #[Value.slice a n cap] 22)).alloc (Obj.cells #[Value.int IntKind.i64 s] 3)).heap.size = w.heap.size + 3 := by simp
  generalize (((w.alloc (Obj.cells #[Value.int IntKind.i64 amount] 3)).alloc (Obj.cells #[Value.slice a n cap] 22)).alloc (Obj.cells #[Value.int IntKind.i64 s] 3)) = W at *
  have hcw := hsh.weights
  have Hsh := hid hsh; clear hsh
  have HgW := hid hgW; clear hgW
  have hsW2 : w.heap.size + 3 ≤ W.heap.size := by omega
  have HsW := hid hsW; clear hsW
  rw [show w.heap.size + 1 + 1 = w.heap.size + 2 from rfl]
  go_cut [6, 7] (fun o r wx => ∃ g1 g2 : Nat, o = .slice (some ⟨g1, 0, none⟩) 0 n ∧ r = .slice (some ⟨g2, 0, none⟩) 0 n ∧ g1 ≠ g2 ∧ wx.ownsRow (w.heap.size + 3) 3 1 (.slice (some ⟨g1, 0, none⟩) 0 n) 0 [] ∧ wx.ownsRow (w.heap.size + 3) 3 1 (.slice (some ⟨g2, 0, none⟩) 0 n) 0 [] ∧ W.grownBy wx none)
  case first =>
    obtain ⟨Z, hZ, hmk⟩ : ∃ Z : Array Value, Z.size = n ∧ ∀ wx : World, (Instr.makeSlice 22 (.int .i64 0) (.int .i64 n)).run Try.prog wx = .ok (.slice (some ⟨wx.heap.size, 0, none⟩) 0 n) (wx.alloc (.cells Z 3)) := by
      refine ⟨madeCells (Value.cells (.int .i64 0)) (n * i0.size), by rw [size_madeCells, hz1]; omega, fun wx => ?_⟩
      have := run_make (P := Try.prog) wx 22 3 i0 _ Try.underlying22 hi hz0 .i64 .i64 0 n (Int.le_refl _) (by omega) (by rw [hz2]; omega) (by omega)
      simpa using this
    have HZ := hid hZ; clear hZ
    have hnw : ∀ o : Obj, (W.alloc o).cell? ⟨w.heap.size + 1, 0, none⟩ = some (.slice a n cap) := fun o => (gr_alloc (gr0 W) o).cell hcw (by simp)
    go_region
    all_goals (go_wp2_with fail; go_meet)
    all_goals
      have hA : ((W.alloc (Obj.cells Z 3)).alloc (Obj.cells Z 3)).ownsRow (w.heap.size + 3) 3 1 (.slice (some ⟨W.heap.size, 0, none⟩) 0 n) 0 [] := (World.ownsRow_made W Z n hsW2 (by unfold maxLen; omega) (by rw [HZ.out]; omega)).alloc _
      have hC : ((W.alloc (Obj.cells Z 3)).alloc (Obj.cells Z 3)).ownsRow (w.heap.size + 3) 3 1 (.slice (some ⟨W.heap.size + 1, 0, none⟩) 0 n) 0 [] := by
        have := World.ownsRow_made (base := w.heap.size + 3) (size := 1) (e := 3) (W.alloc (Obj.cells Z 3)) Z n (by simp; omega) (by unfold maxLen; omega) (by rw [HZ.out]; omega)
        simpa using this
      have hgg : W.grownBy ((W.alloc (Obj.cells Z 3)).alloc (Obj.cells Z 3)).drew none := gr_drew (gr_alloc (gr_alloc (gr0 _) _) _)
      first
        | exact ⟨W.heap.size, W.heap.size + 1, rfl, rfl, by omega, hA.drew, hC.drew, hgg⟩
        | exact ⟨W.heap.size + 1, W.heap.size, rfl, rfl, by omega, hC.drew, hA.drew, hgg⟩
  case rest =>
    obtain ⟨g1, g2, rfl, rfl, hne, ho1, ho2, hgc⟩ := hcut
    have hsh := Hsh.out.keep0 hgc
    have hcw := hsh.weights
    have Ho1 := hid ho1; clear ho1
    have Ho2 := hid ho2; clear ho2
    have hbc : Below (w.heap.size + 3) W wc := below_gr hgc (fun _ e => by cases e) hsW2
    have Hbc := hid hbc; clear hbc hsh hgc
    have Hne := hid hne; clear hne
    have Hab : Hid (0 < n → ∀ b off, a = some ⟨b, off, none⟩ → b < w.heap.size + 3) := hid (fun h0 b off e => by
      obtain ⟨b', off', e', hlt, _⟩ := Hsl.out.mem h0
      rw [e] at e'; cases e'; omega)
    go_wp2_with fail
    go_loopw [6, 7, 23] (fun o r i wr => ∃ k : Nat, k ≤ n ∧ i = .int .i64 k ∧ o = .slice (some ⟨g1, 0, none⟩) k n ∧ r = .slice (some ⟨g2, 0, none⟩) k n ∧ wr.ownsRow (w.heap.size + 3) 3 1 (.slice (some ⟨g1, 0, none⟩) k n) k (((ws.take k).map fun x => amount * x / s).flatMap intL.cells) ∧ wr.ownsRow (w.heap.size + 3) 3 1 (.slice (some ⟨g2, 0, none⟩) k n) k (((upFrom 0 n).take k).flatMap intL.cells) ∧ Below (w.heap.size + 3) W wr) (fun _ _ i _ => n - (intOf i).toNat)
    case atStart => exact ⟨0, by omega, rfl, rfl, rfl, by simpa using Ho1.out, by simpa using Ho2.out, Hbc.out⟩
    case round =>
      clear Ho1 Ho2 hcw
      obtain ⟨k, hk, rfl, rfl, rfl, hoo, hor, hb⟩ := hrel
      have hsh := Hsh.out.keepB hb (by omega) (by omega) (by omega) Hab.out
      obtain ⟨camt, cwts, csum, hslw⟩ := hsh
      have hszb := hb.size
      have Hb := hid hb; clear hb
      have Hoo := hid hoo; clear hoo
      have Hor := hid hor; clear hor
      by_cases hlt : k < n
      · obtain ⟨b, off, x, rfl, hxk, hcx⟩ := int_at hslw k hlt
        have hxb := Hw.out x (List.mem_of_getElem? hxk)
        have Hxk := hid hxk; clear hxk hslw
        have p1 : 0 ≤ amount * x := Int.mul_nonneg ha0 hxb.1
        have p3 : amount * x ≤ 1000000000 * 9999 := Int.mul_le_mul ha1 hxb.2 hxb.1 (by omega)
        go_wp2_with (at_builtin; go_must (refine wpList_append_fits _ rfl _ _ 22 rfl (w.heap.size + 3) 3 i0 1 Try.underlying22 hi hz1 g1 k n _ rfl (Hoo.out.alloc _) ⟨wr.heap.size, 0, none⟩ 1 1 [.int .i64 (amount * x / s)] rfl rfl ?c1 ?c2 ?c3 ?_))
        case c1 => exact cells_new wr _ _ _ rfl
        case c2 => simp [Value.oneCell']
        case c3 => omega
        intro w2 hoo2 hgo2
        have hor2 : w2.ownsRow (w.heap.size + 3) 3 1 (.slice (some ⟨g2, 0, none⟩) k n) k (((upFrom 0 n).take k).flatMap intL.cells) := (Hor.out.alloc _).kept hgo2 (by right; intro h; exact Hne.out (by cases h; rfl))
        have hg1B := (Hoo.out.lt g1 rfl).1
        have hg2B := (Hor.out.lt g2 rfl).1
        have hb2 : Below (w.heap.size + 3) W w2 := (Hb.out).trans (below_gr (gr_trans (gr_any (gr_alloc (gr0 _) _) _) hgo2 (fun g e => .inl e)) (fun g e => by cases e; exact hg1B) (by omega))
        have hszb2 := hb2.size
        have Hoo2 := hid hoo2; clear hoo2
        have Hor2 := hid hor2; clear hor2
        have Hb2 := hid hb2; clear hb2 hgo2
        clear camt cwts csum hcx
        go_wp2_with (at_builtin; go_must (refine wpList_append_fits _ rfl _ _ 22 rfl (w.heap.size + 3) 3 i0 1 Try.underlying22 hi hz1 g2 k n _ rfl (Hor2.out.alloc _) ⟨w2.heap.size, 0, none⟩ 1 1 [.int .i64 k] rfl rfl ?d1 ?d2 ?d3 ?_))
        case d1 => exact cells_new w2 _ _ _ rfl
        case d2 => simp [Value.oneCell']
        case d3 => omega
        intro w3 hor3 hgo3
        have hoo3 : w3.ownsRow (w.heap.size + 3) 3 1 (.slice (some ⟨g1, 0, none⟩) (k + 1) n) (k + 1) _ := (Hoo2.out.alloc _).kept hgo3 (by right; intro h; exact Hne.out (by cases h; rfl))
        have hb3 : Below (w.heap.size + 3) W w3 := (Hb2.out).trans (below_gr (gr_trans (gr_any (gr_alloc (gr0 _) _) _) hgo3 (fun g e => .inl e)) (fun g e => by cases e; exact hg2B) (by omega))
        have Hoo3 := hid hoo3; clear hoo3
        have Hor3 := hid hor3; clear hor3
        have Hb3 := hid hb3; clear hb3 hgo3
        go_wp2
        go_roundw
        case rel =>
          refine ⟨k + 1, by omega, by go_num, rfl, rfl, ?_, ?_, Hb3.out⟩
          · have h := Hoo3.out
            rw [take_snoc _ _ _ Hxk.out, List.map_append, List.flatMap_append, List.map_take]
            exact h
          · have h := Hor3.out
            rw [take_snoc _ _ _ (upFrom_at 0 n k hlt), List.flatMap_append]
            rw [Int.zero_add]
            exact h
        case measure => simp [intOf]; omega
      · obtain rfl : k = n := by omega
        have hsh : ShIn wr w.heap.size (w.heap.size + 1) (w.heap.size + 2) amount s a k cap ws := ⟨camt, cwts, csum, hslw⟩
        have hll := Hsl.out.len
        have hqs : (ws.take k).map (fun x => amount * x / s) = quos amount ws := by
          rw [take_len _ _ hll]; unfold quos; rw [Hsum.out]
        rw [hqs] at Hoo
        rw [take_len _ _ (upFrom_len 0 k)] at Hor
        have howr : Ow intL wr (w.heap.size + 3) (some ⟨g2, 0, none⟩) k (upFrom 0 k) := Ow.of_own Hor.out (upFrom_len 0 k) (by unfold maxLen; omega)
        have howo : Ow intL wr (w.heap.size + 3) (some ⟨g1, 0, none⟩) k (quos amount ws) := Ow.of_own Hoo.out (by unfold quos; rw [List.length_map, hll]) (by unfold maxLen; omega)
        have Howo := hid howo; clear howo
        have hup : ∀ x ∈ upFrom 0 k, 0 ≤ x ∧ x < k := fun x hx => by
          obtain ⟨i, hi⟩ := List.getElem?_of_mem hx
          have hik := lt_of_at hi
          rw [upFrom_len] at hik
          rw [upFrom_at 0 k i hik] at hi
          cases hi; omega
        have S := hid (SortStable_any g2 k w.heap.size (w.heap.size + 1) (w.heap.size + 2) (w.heap.size + 3) k cap amount s a ws (upFrom 0 k) wr hsh (by omega) (by omega) (by omega) Hab.out (by omega) howr hn hup ha0 ha1 Hw.out (by omega))
        clear howr hup hqs hslw
        have Hsh2 := hid hsh; clear hsh camt cwts csum
        go_wp2_with fail
        refine S.out.mono ?_
        rintro e w4 ⟨rfl, hsorted, hg4⟩
        have hg1B := (Hoo.out.lt g1 rfl).1
        have hg2B := (Hor.out.lt g2 rfl).1
        have hsh4 := Hsh2.out.keepB (below_gr hg4 (fun k e => by cases e; exact hg2B) (by omega)) (by omega) (by omega) (by omega) Hab.out
        have Howo4 := hid (Howo.out.keep hg4 (fun _ b off e1 e2 => by cases e1; cases e2; exact Hne.out rfl))
        have Hs4 := hid hsorted; clear hsorted
        have Hb4 := hid ((Hb.out).trans (below_gr hg4 (fun k e => by cases e; exact hg2B) (by omega))); clear hg4
        obtain ⟨camt, _, _, _⟩ := hsh4
        have htq2 := Htq.out
        go_wp2_with fail
        go_quiet ((go_at_call 50; exact Calls.quiet_of_same (total_any _ _ _ (quos amount ws) _ (Howo4.out.sl.keep0 (gr_drewN (gr0 _) _)))))
        rw [htq2]
        have Howo5 := hid (Howo4.out.keep0 (gr_drewN (gr0 _) nq))
        have Hs5 := hid (Hs4.out.keep0 (gr_drewN (gr0 _) nq))
        have Hb5 := hid ((Hb4.out).trans (below_gr (gr_drewN (gr0 _) nq) (fun _ e => by cases e) (by have := Hb4.out.size; omega)) : Below (w.heap.size + 3) W (w4.drewN nq))
        generalize w4.drewN nq = w5 at *
        obtain ⟨lft, hlft⟩ := Int.eq_ofNat_of_zero_le hl0
        have hlf : leftOf amount ws = lft := by unfold leftOf; rw [hlft]; rfl
        have Hlf := hid hlf; clear hlf
        have hlk : lft ≤ k := by omega
        have hord : isort (ltR amount s ws) (upFrom 0 k) = orderOf amount ws := by unfold orderOf; rw [Hsum.out, hll]
        rw [hord] at Hs5
        have Hom : Hid (∀ z ∈ orderOf amount ws, 0 ≤ z ∧ z < k) := by
          refine hid (fun z hz => ?_)
          rw [← hord] at hz
          obtain ⟨i, hi⟩ := List.getElem?_of_mem ((isort_mem _ _ _).1 hz)
          have hik := lt_of_at hi
          rw [upFrom_len] at hik
          rw [upFrom_at 0 k i hik] at hi
          cases hi; omega
        clear hord camt htq2
        go_wp2_with fail
        go_loopw [52] (fun i wr => ∃ j : Nat, j ≤ lft ∧ i = .int .i64 j ∧ Ow intL wr (w.heap.size + 3) (some ⟨g1, 0, none⟩) k (((orderOf amount ws).take j).foldl bump (quos amount ws)) ∧ (∀ x ∈ ((orderOf amount ws).take j).foldl bump (quos amount ws), 0 ≤ x ∧ x ≤ 1000000000 + j) ∧ Ow intL wr (w.heap.size + 3) (some ⟨g2, 0, none⟩) k (orderOf amount ws) ∧ Below (w.heap.size + 3) W wr) (fun i _ => lft - (intOf i).toNat)
        case atStart => exact ⟨0, by omega, rfl, Howo5.out, fun x hx => by have := Hq.out x hx; omega, Hs5.out, Hb5.out⟩
        case round =>
          clear Howo Howo4 Howo5 Hs4 Hs5 Hb4 Hb5 Hoo Hor S Hsh2
          obtain ⟨j, hj, rfl, hO, hbd, hS, hB⟩ := hrel
          have hlf' := Hlf.out
          have Hbd := hid hbd; clear hbd
          have HB := hid hB; clear hB
          have HS := hid hS; clear hS
          have HO := hid hO; clear hO
          by_cases hjl : j < lft
          · obtain ⟨b, off, z, e1, hz, cz⟩ := int_at HS.out.sl j (by omega)
            cases e1
            simp only [Nat.zero_add] at cz
            have hzb := Hom.out z (List.mem_of_getElem? hz)
            obtain ⟨zn, rfl⟩ := Int.eq_ofNat_of_zero_le hzb.1
            obtain ⟨b, off, v, e1, hv, hbB, hblt, hf, hc⟩ := HO.out.at zn (by omega)
            cases e1
            have cv : wr.cell? ⟨g1, zn, none⟩ = some (.int .i64 v) := by have := hc 0 _ rfl; simpa [intL] using this
            have fv : wr.frozen? ⟨g1, zn, none⟩ = false := hf zn
            have hvb := Hbd.out v (List.mem_of_getElem? hv)
            have hg12 : ¬ g1 = g2 := Hne.out
            have hg21 : ¬ g2 = g1 := fun e => hg12 e.symm
            have Hz := hid hz; clear hz
            have Hv := hid hv; clear hv hc hf
            go_wp2
            go_roundw
            case rel =>
              have hbump : ((orderOf amount ws).take (j + 1)).foldl bump (quos amount ws) = (((orderOf amount ws).take j).foldl bump (quos amount ws)).set zn (v + 1) := by
                rw [take_snoc _ _ _ Hz.out, List.foldl_append]
                simp only [List.foldl_cons, List.foldl_nil]
                generalize ((orderOf amount ws).take j).foldl bump (quos amount ws) = L at *
                have hgd : L.getD zn 0 = v := by rw [List.getD_eq_getElem?_getD, Hv.out]; rfl
                unfold bump
                rw [show ((zn : Int)).toNat = zn by omega, hgd]
              refine ⟨j + 1, by omega, by go_num, ?_, ?_, ?_, ?_⟩
              · rw [hbump]
                exact HO.out.set zn 0 v (v + 1) (.int .i64 (v + 1)) Hv.out (by simp [intL]) rfl zn (by simp [intL])
              · rw [hbump]
                intro x hx
                rcases List.mem_or_eq_of_mem_set hx with h | h
                · have := Hbd.out x h; push_cast; omega
                · push_cast; omega
              · exact HS.out.keep (gr_setCell (r := some g1) (gr_refl _ _) (.inl rfl) _) (fun _ b off e1 e2 => by cases e1; cases e2; exact hg12 rfl)
              · exact Below.setCell HB.out hbB _
            case measure => simp [intOf]; omega
          · obtain rfl : j = lft := by omega
            go_wp2_with fail
            go_ret
            refine ⟨_, k, rfl, ?_, Nat.le_refl _, ?_⟩
            · have := HO.out.mono (base' := w.heap.size) (by omega)
              unfold sharesF
              rw [Hlf.out]
              exact this
            · exact gr_of_below ((below_of_gr HgW.out).trans (HB.out.mono (by omega)))

end Go.Proofs.Ytecboohippbliaa

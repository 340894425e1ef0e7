/- The reference's CapWeights: spread, and the rounds. -/
import Derived.Test.YtecboohippbliaaRows
import Derived.Test.YtecboohippbliaaBase
import Derived.Test.YtecboohippbliaaCap
import Derived.Test.YtecboohippbliaaCapLib
import Derived.Test.YtecboohippbliaaCapWalk
import Derived.Test.YtecboohippbliaaSpecAllot
import Derived.Test.YtecboohippbliaaSpecProRate2
import Derived.StillTailTactics
import Derived.Deep.RegionHeld
import Derived.Deep.AppendLies
import Derived.IntWalk
namespace Go.Proofs.Ytecboohippbliaa
open Go.RowKit

def rowW (zs : List Int) (fx : List Bool) : List Int := List.zipWith (fun x f => x * (if (!f) = true then 1 else 0)) zs fx
def flagW (fx : List Bool) : List Int := fx.map fun f => if (!f) = true then (1 : Int) else 0
theorem mask_row (zs : List Int) (fx : List Bool) : maskW zs fx = if sumI (rowW zs fx) = 0 then flagW fx else rowW zs fx := rfl
theorem rowW_len (zs : List Int) (fx : List Bool) (h : zs.length = fx.length) : (rowW zs fx).length = zs.length := by unfold rowW; rw [List.length_zipWith]; omega
theorem rowW_snoc (zs : List Int) (fx : List Bool) (k : Nat) (x : Int) (f : Bool) (hx : zs[k]? = some x) (hf : fx[k]? = some f) : rowW (zs.take (k + 1)) (fx.take (k + 1)) = rowW (zs.take k) (fx.take k) ++ [x * (if (!f) = true then 1 else 0)] := by
  have h1 := lt_of_at hx
  have h2 := lt_of_at hf
  unfold rowW; rw [take_snoc _ _ _ hx, take_snoc _ _ _ hf, List.zipWith_append (by rw [List.length_take, List.length_take]; omega)]; rfl
theorem rowW_mem (zs : List Int) (fx : List Bool) (h : ∀ x ∈ zs, 0 ≤ x ∧ x ≤ 1000) : ∀ z ∈ rowW zs fx, 0 ≤ z ∧ z ≤ 1000 := by
  intro z hz
  unfold rowW at hz
  obtain ⟨i, hi, rfl⟩ := List.mem_iff_getElem.1 hz
  rw [List.getElem_zipWith]
  have := h _ (List.getElem_mem (l := zs) (n := i) (by rw [List.length_zipWith] at hi; omega))
  split <;> omega
theorem flag_step (fx : List Bool) (ws : List Int) (k : Nat) (f : Bool) (hf : fx[k]? = some f) (hl : ws.length = fx.length) : (flagW (fx.take k) ++ ws.drop k).set k (if (!f) = true then 1 else 0) = flagW (fx.take (k + 1)) ++ ws.drop (k + 1) := by
  have hk := lt_of_at hf
  have hw : ws[k]? = some (ws[k]'(by omega)) := by simp [show k < ws.length by omega]
  have hfl : (flagW (fx.take k)).length = k := by unfold flagW; rw [List.length_map, List.length_take]; omega
  rw [List.set_append_right _ _ (by omega), hfl, Nat.sub_self, drop_at _ _ _ hw, List.set_cons_zero, take_snoc _ _ _ hf]
  unfold flagW
  rw [List.map_append, List.map_singleton, List.append_assoc]; rfl
theorem flag_here (fx : List Bool) (ws : List Int) (k : Nat) (x : Int) (hk : k < fx.length) (hx : ws[k]? = some x) : (flagW (fx.take k) ++ ws.drop k)[k]? = some x := by
  have hfl : (flagW (fx.take k)).length = k := by unfold flagW; rw [List.length_map, List.length_take]; omega
  rw [List.getElem?_append_right (by omega), hfl, Nat.sub_self, drop_at _ _ _ hx]; rfl

theorem toInt_u (b : Bool) (u : Int) (hu : u = if b = true then 1 else 0) (w : World) : Calls Try.prog 72 #[.bool b] w fun e w' => e = .returned (.int .i64 u) ∧ w = w' := by
  subst hu; exact toInt_any b w

theorem flag_len (fx : List Bool) : (flagW fx).length = fx.length := by unfold flagW; rw [List.length_map]
theorem mask_len2 (zs : List Int) (fx : List Bool) (h : zs.length = fx.length) : (maskW zs fx).length = zs.length := by
  rw [mask_row]; split
  · rw [flag_len, h]
  · exact rowW_len zs fx h
theorem mask_mem (zs : List Int) (fx : List Bool) (h : ∀ x ∈ zs, 0 ≤ x ∧ x ≤ 1000) : ∀ x ∈ maskW zs fx, 0 ≤ x ∧ x ≤ 1000 := by
  intro x hx
  rw [mask_row] at hx
  split at hx
  · unfold flagW at hx
    obtain ⟨f, _, rfl⟩ := List.mem_map.1 hx
    split <;> omega
  · exact rowW_mem zs fx h x hx
theorem mask_ok (zs : List Int) (fx : List Bool) (h : ∀ x ∈ zs, 0 ≤ x ∧ x ≤ 1000) (hl : zs.length = fx.length) (h1 : 1 ≤ zs.length) (h8 : zs.length ≤ 8) : holdersOk (maskW zs fx) = true := by
  unfold holdersOk intsIn
  simp only [Bool.and_eq_true, within_iff', List.all_eq_true]
  rw [mask_len2 zs fx hl]
  exact ⟨by omega, fun x hx => by have := mask_mem zs fx h x hx; omega⟩

set_option maxRecDepth 100000 in
set_option maxHeartbeats 2000000 in
theorem spread_any (g1 g2 n c1 B : Nat) (zs : List Int) (fx : List Bool) (amount : Int) (w : World) (ho : Ow intL w B (some ⟨g1, 0, none⟩) n zs) (hf : Sl boolL w (some ⟨g2, 0, none⟩) n fx) (hne : g1 ≠ g2) (hn1 : 1 ≤ n) (hn8 : n ≤ 8)
    (hz : ∀ x ∈ zs, 0 ≤ x ∧ x ≤ 1000) (ha0 : 0 < amount) (ha1 : amount ≤ 1000) (hsum : 0 < sumI (maskW zs fx)) (hb : ∀ x ∈ specF amount (maskW zs fx), 0 ≤ x ∧ x ≤ 1000) :
    Calls Try.prog 57 #[.slice (some ⟨g1, 0, none⟩) n c1, .slice (some ⟨g2, 0, none⟩) n n, .int .i64 amount] w fun e w' => e = .returned (.tuple #[]) ∧ Ow intL w' B (some ⟨g1, 0, none⟩) n (addL zs (specF amount (maskW zs fx))) ∧ w.grownBy w' (some g1) := by
  obtain ⟨i0, hi, hz0, hz1, hz2⟩ := info_parts infoInt
  have hzl := ho.len
  have hfl := hf.len
  have Ho := hid ho; clear ho
  have Hf := hid hf; clear hf
  have Hz := hid hz; clear hz
  have Hb := hid hb; clear hb
  have hA : (w.alloc (Obj.cells #[] 3)).ownsRow w.heap.size 3 1 (.slice (some ⟨w.heap.size, 0, none⟩) 0 0) 0 (([] : List Int).flatMap intL.cells) := World.ownsRow_made w #[] 0 (Nat.le_refl _) (by decide) rfl
  have HA := hid hA; clear hA
  have HoB : Hid (B ≤ g1 ∧ g1 < w.heap.size ∧ g2 < w.heap.size) := hid (by
    obtain ⟨b, o, e1, e2, e3, _⟩ := Ho.out.mem (by omega)
    obtain ⟨b', o', e1', e2', _⟩ := Hf.out.mem (by omega)
    cases e1; cases e1'; exact ⟨e2, e3, e2'⟩)
  have Hne := hid hne; clear hne
  have Hsum := hid hsum; clear hsum
  go_enter Try.func57, Try.ntmps57
  go_wp2_with fail
  go_loopw [6, 7, 8] (fun p s i wr => ∃ (k pg pc : Nat), k ≤ n ∧ i = .int .i64 k ∧ p = .slice (some ⟨pg, 0, none⟩) k pc ∧ s = .int .i64 (sumI (rowW (zs.take k) (fx.take k))) ∧ wr.ownsRow w.heap.size 3 1 (.slice (some ⟨pg, 0, none⟩) k pc) k ((rowW (zs.take k) (fx.take k)).flatMap intL.cells) ∧ w.grownBy wr none) (fun _ _ i _ => n - (intOf i).toNat)
  case atStart => exact ⟨0, w.heap.size, 0, by omega, rfl, rfl, by simp [rowW, sumI], by simpa [rowW] using HA.out, gr_alloc (gr0 _) _⟩
  case round =>
    clear HA
    obtain ⟨k, pg, pc, hk, rfl, rfl, rfl, hp, hg⟩ := hrel
    have hrm := rowW_mem (zs.take k) (fx.take k) (fun x hx => Hz.out x (List.mem_of_mem_take hx))
    have hrl : (rowW (zs.take k) (fx.take k)).length = k := by rw [rowW_len _ _ (by rw [List.length_take, List.length_take]; omega), List.length_take]; omega
    have hrb := sumI_bound _ 0 1000 hrm
    rw [hrl] at hrb
    have hr0 : 0 ≤ sumI (rowW (zs.take k) (fx.take k)) := by omega
    have hr1 : sumI (rowW (zs.take k) (fx.take k)) ≤ 8000 := by omega
    clear hrm hrl hrb
    by_cases hlt : k < n
    · obtain ⟨x, hx⟩ : ∃ x, zs[k]? = some x := ⟨zs[k]'(by omega), by simp⟩
      obtain ⟨f, hfx⟩ : ∃ f, fx[k]? = some f := ⟨fx[k]'(by omega), by simp⟩
      have hxb := Hz.out x (List.mem_of_getElem? hx)
      have cx : wr.cell? ⟨g1, k, none⟩ = some (.int .i64 x) := by
        obtain ⟨b3, o3, z, e3, h3, c3⟩ := int_at (Ho.out.sl.keep0 hg) k hlt
        cases e3
        rw [hx] at h3; obtain rfl := Option.some.inj h3
        simpa using c3
      have cf : wr.cell? ⟨g2, k, none⟩ = some (.bool f) := by
        obtain ⟨b3, o3, z, e3, h3, c3⟩ := bool_at (Hf.out.keep0 hg) k hlt
        cases e3
        rw [hfx] at h3; obtain rfl := Option.some.inj h3
        simpa using c3
      have hs := rowW_snoc zs fx k x f hx hfx
      have Hs := hid hs
      have Hss : Hid (sumI (rowW (zs.take (k + 1)) (fx.take (k + 1))) = sumI (rowW (zs.take k) (fx.take k)) + x * (if (!f) = true then 1 else 0)) := hid (by rw [hs, sumI_append]; simp [sumI])
      clear hs hx hfx
      generalize hsr : sumI (rowW (zs.take k) (fx.take k)) = sr at *
      have Hsr := hid hsr; clear hsr
      have Hp := hid hp; clear hp
      have Hg := hid hg; clear hg
      have hi0 : (0 : Int) ≤ k := by omega
      have hi1 : (k : Int) < n := by omega
      have hpL := (Hp.out.lt pg rfl)
      obtain ⟨u, hu⟩ : ∃ u : Int, u = if (!f) = true then 1 else 0 := ⟨_, rfl⟩
      rw [← hu] at Hs Hss
      have hu2 : u = 0 ∨ u = 1 := by rw [hu]; split <;> omega
      have hv : 0 ≤ x * u ∧ x * u ≤ 1000 := by rcases hu2 with h | h <;> rw [h] <;> omega
      have Hu := hid hu
      clear hu hu2
      obtain ⟨hv0, hv1⟩ := hv
      go_wp2_with fail
      refine wp_region_held_drew (S := fun w' => w'.cell? ⟨g1, k, none⟩ = some (.int .i64 x) ∧ w'.cell? ⟨g2, k, none⟩ = some (.bool f)) (by kernel_rfl) ⟨cx, cf⟩ (fun hHeld => ?_)
      refine wpAnyH_take (i := 0) (v := ?_) rfl (by kernel_rfl) (by kernel_rfl) (by kernel_rfl) (fun _ _ _ h => h) (Or.inl ⟨by rfl, ?_⟩) hHeld ?_
      rotate_left
      · intro w9 hSw
        obtain ⟨s1, s2⟩ := hSw
        go_simp
        all_goals (try with_reducible rfl)
      (try simp only [Act.put]); (try simp only [List.getElem_toArray]); (try simp only [List.getElem_cons_succ]); (try simp only [List.getElem_cons_zero]); (try simp only [List.setIfInBounds_toArray]); (try simp only [List.set_cons_succ]); (try simp only [List.set_cons_zero])
      refine wpAnyH_take (i := 1) (v := ?_) rfl (by kernel_rfl) (by kernel_rfl) (by kernel_rfl) (fun _ _ _ h => h) (Or.inl ⟨by rfl, ?_⟩) hHeld ?_
      rotate_left
      · intro w9 hSw
        obtain ⟨s1, s2⟩ := hSw
        go_simp
        all_goals (try with_reducible rfl)
      (try simp only [Act.put]); (try simp only [List.getElem_toArray]); (try simp only [List.getElem_cons_succ]); (try simp only [List.getElem_cons_zero]); (try simp only [List.setIfInBounds_toArray]); (try simp only [List.set_cons_succ]); (try simp only [List.set_cons_zero])
      refine wpAnyH_take (i := 2) (v := ?_) rfl (by kernel_rfl) (by kernel_rfl) (by kernel_rfl) (fun _ _ _ h => h) (Or.inl ⟨by rfl, ?_⟩) hHeld ?_
      rotate_left
      · intro w9 hSw
        obtain ⟨s1, s2⟩ := hSw
        go_simp
        all_goals (try with_reducible rfl)
      (try simp only [Act.put]); (try simp only [List.getElem_toArray]); (try simp only [List.getElem_cons_succ]); (try simp only [List.getElem_cons_zero]); (try simp only [List.setIfInBounds_toArray]); (try simp only [List.set_cons_succ]); (try simp only [List.set_cons_zero])
      refine wpAnyH_take (i := 3) (v := ?_) rfl (by kernel_rfl) (by kernel_rfl) (by kernel_rfl) (fun _ _ _ h => h) (Or.inl ⟨by rfl, ?_⟩) hHeld ?_
      rotate_left
      · intro w9 hSw
        obtain ⟨s1, s2⟩ := hSw
        go_simp
        all_goals (try with_reducible rfl)
      (try simp only [Act.put]); (try simp only [List.getElem_toArray]); (try simp only [List.getElem_cons_succ]); (try simp only [List.getElem_cons_zero]); (try simp only [List.setIfInBounds_toArray]); (try simp only [List.set_cons_succ]); (try simp only [List.set_cons_zero])
      refine wpAnyH_take (i := 4) (v := ?_) rfl (by kernel_rfl) (by kernel_rfl) (by kernel_rfl) (fun _ _ _ h => h) (Or.inl ⟨by rfl, ?_⟩) hHeld ?_
      rotate_left
      · intro w9 hSw
        obtain ⟨s1, s2⟩ := hSw
        go_simp
        all_goals (try with_reducible rfl)
      (try simp only [Act.put]); (try simp only [List.getElem_toArray]); (try simp only [List.getElem_cons_succ]); (try simp only [List.getElem_cons_zero]); (try simp only [List.setIfInBounds_toArray]); (try simp only [List.set_cons_succ]); (try simp only [List.set_cons_zero])
      refine wpAnyH_take (i := 5) (v := ?_) rfl (by kernel_rfl) (by kernel_rfl) (by kernel_rfl) (fun _ _ _ h => h) (Or.inl ⟨by rfl, ?_⟩) hHeld ?_
      rotate_left
      · intro w9 hSw
        obtain ⟨s1, s2⟩ := hSw
        go_simp
        all_goals (try with_reducible rfl)
      (try simp only [Act.put]); (try simp only [List.getElem_toArray]); (try simp only [List.getElem_cons_succ]); (try simp only [List.getElem_cons_zero]); (try simp only [List.setIfInBounds_toArray]); (try simp only [List.set_cons_succ]); (try simp only [List.set_cons_zero])
      refine wpAnyH_take (i := 6) (v := ?_) rfl (by kernel_rfl) (by kernel_rfl) (by kernel_rfl) (fun _ _ _ h => h) (Or.inl ⟨by rfl, ?_⟩) hHeld ?_
      rotate_left
      · intro w9 hSw
        obtain ⟨s1, s2⟩ := hSw
        go_simp
        all_goals (try with_reducible rfl)
      (try simp only [Act.put]); (try simp only [List.getElem_toArray]); (try simp only [List.getElem_cons_succ]); (try simp only [List.getElem_cons_zero]); (try simp only [List.setIfInBounds_toArray]); (try simp only [List.set_cons_succ]); (try simp only [List.set_cons_zero])
      refine wpAnyH_take (i := 7) (v := ?_) rfl (by kernel_rfl) (by kernel_rfl) (by kernel_rfl) (fun _ _ _ h => h) (Or.inl ⟨by rfl, ?_⟩) hHeld ?_
      rotate_left
      · intro w9 hSw
        obtain ⟨s1, s2⟩ := hSw
        go_simp
        all_goals (try with_reducible rfl)
      (try simp only [Act.put]); (try simp only [List.getElem_toArray]); (try simp only [List.getElem_cons_succ]); (try simp only [List.getElem_cons_zero]); (try simp only [List.setIfInBounds_toArray]); (try simp only [List.set_cons_succ]); (try simp only [List.set_cons_zero])
      refine wpAnyH_take (i := 8) (v := ?_) rfl (by kernel_rfl) (by kernel_rfl) (by kernel_rfl) (fun _ _ _ h => h) (Or.inl ⟨by rfl, ?_⟩) hHeld ?_
      rotate_left
      · intro w9 hSw
        obtain ⟨s1, s2⟩ := hSw
        go_simp
        all_goals (try with_reducible rfl)
      (try simp only [Act.put]); (try simp only [List.getElem_toArray]); (try simp only [List.getElem_cons_succ]); (try simp only [List.getElem_cons_zero]); (try simp only [List.setIfInBounds_toArray]); (try simp only [List.set_cons_succ]); (try simp only [List.set_cons_zero])
      refine wpAnyH_take (i := 9) (v := ?_) rfl (by kernel_rfl) (by kernel_rfl) (by kernel_rfl) (fun _ _ _ h => h) (Or.inl ⟨by rfl, ?_⟩) hHeld ?_
      rotate_left
      · intro w9 hSw
        obtain ⟨s1, s2⟩ := hSw
        go_simp
        all_goals (try with_reducible rfl)
      (try simp only [Act.put]); (try simp only [List.getElem_toArray]); (try simp only [List.getElem_cons_succ]); (try simp only [List.getElem_cons_zero]); (try simp only [List.setIfInBounds_toArray]); (try simp only [List.set_cons_succ]); (try simp only [List.set_cons_zero])
      refine wpAnyH_ready (rs := [10]) (by kernel_rfl) (by simp) ?_
      refine AllReadyH.cons rfl (fun K hK => ?_) AllReadyH.nil
      go_simp
      refine (toInt_u (!f) u Hu.out _).mono ?_
      rintro e w1 ⟨rfl, rfl⟩
      (try simp only [])
      refine hK.out _ _ hHeld (fun _ => ?_)
      clear hK K
      (try simp only [Act.put]); (try simp only [List.getElem_toArray]); (try simp only [List.getElem_cons_succ]); (try simp only [List.getElem_cons_zero]); (try simp only [List.setIfInBounds_toArray]); (try simp only [List.set_cons_succ]); (try simp only [List.set_cons_zero])
      have hwr : IntKind.i64.wrap (x * u) = x * u := IntWalk.i64_in _ (by omega)
      refine wpAnyH_take (i := 11) (v := ?_) rfl (by kernel_rfl) (by kernel_rfl) (by kernel_rfl) (fun _ _ _ h => h) (Or.inl ⟨by rfl, ?_⟩) hHeld ?_
      rotate_left
      · intro w9 hSw
        obtain ⟨s1, s2⟩ := hSw
        go_simp
        all_goals (try with_reducible rfl)
      (try simp only [Act.put]); (try simp only [List.getElem_toArray]); (try simp only [List.getElem_cons_succ]); (try simp only [List.getElem_cons_zero]); (try simp only [List.setIfInBounds_toArray]); (try simp only [List.set_cons_succ]); (try simp only [List.set_cons_zero])
      try rw [hwr]
      refine wpAnyH_ready (rs := [12]) (by kernel_rfl) (by simp) ?_
      refine AllReadyH.cons rfl (fun K hK => ?_) AllReadyH.nil
      go_simp
      refine hK.out _ _ ?_ (fun hHeld2 => ?_)
      · exact ⟨(gr_alloc (gr0 _) _).cell hHeld.1 (by simp), (gr_alloc (gr0 _) _).cell hHeld.2 (by simp)⟩
      clear hK K
      (try simp only [Act.put]); (try simp only [List.getElem_toArray]); (try simp only [List.getElem_cons_succ]); (try simp only [List.getElem_cons_zero]); (try simp only [List.setIfInBounds_toArray]); (try simp only [List.set_cons_succ]); (try simp only [List.set_cons_zero])
      refine wpAnyH_ready (rs := [13]) (by kernel_rfl) (by simp) ?_
      refine AllReadyH.cons rfl (fun K hK => ?_) AllReadyH.nil
      refine step_append_lies _ (by rfl) _ _ _ (by rfl) w.heap.size 3 i0 _ 1 8 Try.underlying22 hi hz0 hz1 hz2 (by rfl) (by decide) (.slice (some ⟨pg, 0, none⟩) k pc) k ((rowW (zs.take k) (fx.take k)).flatMap intL.cells) (by rfl) (Hp.out.drew.alloc _) ⟨wr.drew.heap.size, 0, none⟩ 1 1 [.int .i64 (x * u)] (by rfl) (by rfl) (cells_new wr.drew _ _ _ rfl) (by simp [Value.oneCell']) (by decide) (by unfold maxLen; omega) (by omega) (by simp; omega) _ rfl ?_
      intro pg' pc' w7 ho7 hgo7 hat7 hlt7
      have hne7 : some g1 ≠ (Value.slice (some ⟨pg, 0, none⟩) k pc).ownBlock ∧ some g2 ≠ (Value.slice (some ⟨pg, 0, none⟩) k pc).ownBlock := by
        have := HoB.out; simp [Value.ownBlock]; omega
      refine hK.out _ _ ?_ (fun hHeld3 => ?_)
      · exact ⟨hgo7.cell hHeld2.1 hne7.1, hgo7.cell hHeld2.2 hne7.2⟩
      clear hK K
      (try simp only [Act.put]); (try simp only [List.getElem_toArray]); (try simp only [List.getElem_cons_succ]); (try simp only [List.getElem_cons_zero]); (try simp only [List.setIfInBounds_toArray]); (try simp only [List.set_cons_succ]); (try simp only [List.set_cons_zero])
      refine wpAnyH_take (i := 14) (v := ?_) rfl (by kernel_rfl) (by kernel_rfl) (by kernel_rfl) (fun _ _ _ h => h) (Or.inl ⟨by rfl, ?_⟩) hHeld3 ?_
      rotate_left
      · intro w9 hSw
        obtain ⟨s1, s2⟩ := hSw
        go_simp
        all_goals (try with_reducible rfl)
      (try simp only [Act.put]); (try simp only [List.getElem_toArray]); (try simp only [List.getElem_cons_succ]); (try simp only [List.getElem_cons_zero]); (try simp only [List.setIfInBounds_toArray]); (try simp only [List.set_cons_succ]); (try simp only [List.set_cons_zero])
      refine wpAnyH_done (by kernel_rfl) ?_ _
      clear hHeld hHeld2 hHeld3 hwr
      have hg7 : w.grownBy w7 none := gr_own (gr_alloc (gr_drew Hg.out) _) hgo7 (fun g e => by simp [Value.ownBlock] at e; omega)
      have Hg7 := hid hg7
      have hl7 := ho7.lt pg' rfl
      have c7 : w7.cell? ⟨pg', k, none⟩ = some (.int .i64 (x * u)) := by
        have hoo : w7.ownsRow w.heap.size 3 1 (.slice (some ⟨pg', 0, none⟩) (k + 1) pc') (k + 1) ((rowW (zs.take k) (fx.take k) ++ [x * u]).flatMap intL.cells) := by rw [List.flatMap_append]; exact ho7
        have hrl : (rowW (zs.take k) (fx.take k)).length = k := by rw [rowW_len _ _ (by rw [List.length_take, List.length_take]; omega), List.length_take]; omega
        obtain ⟨b3, o3, z, e3, h3, c3⟩ := int_at (Ow.own_ints hoo (by omega)).sl k (by omega)
        cases e3
        rw [List.getElem?_append_right (by omega), hrl, Nat.sub_self] at h3
        obtain rfl : x * u = z := by simpa using h3
        simpa using c3
      have Ho7 := hid ho7
      clear ho7 hgo7 hat7 hg7 hne7 cx cf
      have hi2 : (k : Int) < ((k + 1 : Nat) : Int) := by omega
      go_wp2_with fail
      go_roundw
      case rel =>
        refine ⟨k + 1, pg', pc', by omega, by go_num, rfl, by rw [Hss.out], ?_, Hg7.out⟩
        rw [Hs.out, List.flatMap_append]; exact Ho7.out
      case measure => simp [intOf]; omega
    · obtain rfl : k = n := by omega
      have tz : zs.take k = zs := List.take_of_length_le (by omega)
      have tf : fx.take k = fx := List.take_of_length_le (by omega)
      rw [tz, tf] at hp hr0 hr1 ⊢
      have Hp : Hid (Ow intL wr w.heap.size (some ⟨pg, 0, none⟩) k (rowW zs fx)) := hid (Ow.own_ints hp (by omega))
      have Hg := hid hg
      have hmr := mask_row zs fx
      have hrl := rowW_len zs fx (by omega)
      have HM := hid (mask_mem zs fx Hz.out)
      obtain ⟨q1, q2, q3⟩ := quos_facts amount (maskW zs fx) (mask_ok zs fx Hz.out (by omega) (by omega) (by omega)) Hsum.out (by omega) (by omega)
      rw [mask_len2 zs fx (by omega), hzl] at q2
      have Q1 := hid q1; have Q2 := hid q2; have Q3 := hid q3
      clear tz tf hp hg q1 q2 q3
      by_cases h0 : sumI (rowW zs fx) = 0
      · rw [if_pos h0] at hmr
        have Hmr := hid hmr
        rw [h0]
        clear hmr h0
        obtain ⟨wo, rfl⟩ : ∃ wo : World, wo = wr := ⟨_, rfl⟩
        go_wp2_with fail
        go_loopw [9] (fun i wr => ∃ j : Nat, j ≤ k ∧ i = .int .i64 j ∧ Ow intL wr w.heap.size (some ⟨pg, 0, none⟩) k (flagW (fx.take j) ++ (rowW zs fx).drop j) ∧ w.grownBy wr none) (fun i _ => k - (intOf i).toNat)
        case atStart => exact ⟨0, by omega, rfl, by simpa [flagW] using Hp.out, Hg.out⟩
        case round =>
          clear Hp Hg
          obtain ⟨j, hj, rfl, hp, hg⟩ := hrel
          by_cases hjl : j < k
          · obtain ⟨f, hfx⟩ : ∃ f, fx[j]? = some f := ⟨fx[j]'(by omega), by simp⟩
            have cf : wr.cell? ⟨g2, j, none⟩ = some (.bool f) := by
              obtain ⟨b3, o3, z, e3, h3, c3⟩ := bool_at (Hf.out.keep0 hg) j hjl
              cases e3
              rw [hfx] at h3; obtain rfl := Option.some.inj h3
              simpa using c3
            obtain ⟨z, hzz⟩ : ∃ z, (rowW zs fx)[j]? = some z := ⟨(rowW zs fx)[j]'(by omega), by simp⟩
            have hh := flag_here fx (rowW zs fx) j z (by omega) hzz
            have ht := flag_step fx (rowW zs fx) j f hfx (by omega)
            obtain ⟨b5, o5, v2, e5, hv3, hB5, _, hf3, hc3⟩ := hp.at j hjl
            simp only [Option.some.injEq, Addr.mk.injEq, and_true] at e5
            obtain ⟨rfl, rfl⟩ := e5
            rw [hh] at hv3
            obtain rfl := Option.some.inj hv3
            have cv : wr.cell? ⟨pg, j, none⟩ = some (.int .i64 z) := by have := hc3 0 _ rfl; simpa [intL] using this
            have fv : wr.frozen? ⟨pg, j, none⟩ = false := hf3 _
            obtain ⟨u, hu⟩ : ∃ u : Int, u = if (!f) = true then 1 else 0 := ⟨_, rfl⟩
            rw [← hu] at ht
            have Hu := hid hu; have Hh := hid hh; have Ht := hid ht; have Hp := hid hp; have Hg := hid hg
            clear hu hh ht hp hg hc3 hf3 hfx hzz
            have hi0 : (0 : Int) ≤ j := by omega
            have hi1 : (j : Int) < k := by omega
            go_wp2_with fail
            refine (toInt_u (!f) u Hu.out _).mono ?_
            rintro e w2 ⟨rfl, rfl⟩
            go_wp2_with fail
            go_roundw
            case rel =>
              refine ⟨j + 1, by omega, by go_num, ?_, gr_setCell Hg.out (.inr hB5) _⟩
              rw [← Ht.out]
              exact Hp.out.set j 0 z u (.int .i64 u) Hh.out (by simp [intL]) rfl j (by simp [intL])
            case measure => simp [intOf]; omega
          · obtain rfl : j = k := by omega
            have Hg := hid hg
            have Hsl : Hid (Sl intL wr (some ⟨pg, 0, none⟩) j (maskW zs fx)) := hid (by
              rw [Hmr.out]
              have := hp.sl
              rwa [List.take_of_length_le (by omega), List.drop_of_length_le (by omega), List.append_nil] at this)
            obtain ⟨k, rfl⟩ : ∃ k : Nat, k = j := ⟨_, rfl⟩
            clear hp hg
            go_wp2_with fail
            refine (prorate_any amount _ k pc (maskW zs fx) wr Hsl.out (by omega) (by omega) (by omega) (by omega) (fun x hx => by have := HM.out x hx; omega) Hsum.out Q1.out (by have := Q2.out; omega) Q3.out).mono ?_
            rintro e w8 ⟨a8, c8, rfl, ho8, hc8, hg8⟩
            have Hp8 := hid ho8
            have Hg8 := hid (gr_trans0 Hg.out hg8)
            have hsz8 := Hg8.out.size
            have HO8 := hid (Ho.out.keep0 Hg8.out)
            generalize hP : specF amount (maskW zs fx) = P at *
            have hPl : P.length = k := ho8.len
            have HP := hid hP
            clear ho8 hg8 hP
            go_wp2_with fail
            go_loopw [11] (fun i wr' => ∃ j : Nat, j ≤ k ∧ i = .int .i64 j ∧ Ow intL wr' B (some ⟨g1, 0, none⟩) k ((addL zs P).take j ++ zs.drop j) ∧ w8.grownBy wr' (some g1)) (fun i _ => k - (intOf i).toNat)
            case atStart => exact ⟨0, by omega, rfl, by simpa using HO8.out, gr_refl _ _⟩
            case round =>
              clear HO8
              obtain ⟨j, hj, rfl, hO, hgj⟩ := hrel
              by_cases hjl : j < k
              · obtain ⟨x, hx⟩ : ∃ x, zs[j]? = some x := ⟨zs[j]'(by omega), by simp⟩
                obtain ⟨b3, o3, y, e3, hy, cy⟩ := int_at (Hp8.out.sl.keep hgj (fun h0 b off e1 e2 => by
                  obtain ⟨b', off', e', hb', _⟩ := Hp8.out.mem h0
                  have := Hg.out.size; have := HoB.out
                  rw [e1] at e'; cases e'; cases e2; omega)) j hjl
                subst e3
                have hxb := Hz.out x (List.mem_of_getElem? hx)
                have hyb := Hb.out y (List.mem_of_getElem? hy)
                have hh := addL_here zs P j x hx (by omega)
                have ht := addL_take zs P j x y hx hy
                obtain ⟨b5, o5, v2, e5, hv3, _, _, hf3, hc3⟩ := hO.at j hjl
                simp only [Option.some.injEq, Addr.mk.injEq, and_true] at e5
                obtain ⟨rfl, rfl⟩ := e5
                rw [hh] at hv3
                obtain rfl := Option.some.inj hv3
                have cv : wr.cell? ⟨g1, j, none⟩ = some (.int .i64 x) := by have := hc3 0 _ rfl; simpa [intL] using this
                have fv : wr.frozen? ⟨g1, j, none⟩ = false := hf3 _
                have Hh := hid hh; have Ht := hid ht; have HO := hid hO; have Hgj := hid hgj
                clear hh ht hO hgj hx hy hc3 hf3
                have hi0 : (0 : Int) ≤ j := by omega
                have hi1 : (j : Int) < k := by omega
                go_wp2_with fail
                go_still_tail 12, (by kernel_rfl)
                change wpList _ _ _ _ _ wr.drew
                go_wp2_with fail
                go_roundw
                case rel =>
                  refine ⟨j + 1, by omega, by go_num, ?_, gr_setCell (gr_drew Hgj.out) (.inl rfl) _⟩
                  rw [← Ht.out]
                  exact (HO.out.keep0 (gr_drew (gr0 _))).set j 0 x (x + y) (.int .i64 (x + y)) Hh.out (by simp [intL]) rfl j (by simp [intL])
                case measure => simp [intOf]; omega
              · obtain rfl : j = k := by omega
                have hfin := hO
                rw [List.drop_of_length_le (by omega), List.append_nil, List.take_of_length_le (by rw [addL_len _ _ (by omega)]; omega), ← HP.out] at hfin
                have HF := hid hfin
                have Hgf := hid (gr_transS (gr_any Hg8.out (some g1)) hgj)
                clear hO hfin hgj
                go_wp2_with fail
                go_end0
                exact ⟨rfl, HF.out, Hgf.out⟩
      · rw [if_neg h0] at hmr
        have hb0 : (sumI (rowW zs fx) == 0) = false := by simpa using h0
        have Hsl : Hid (Sl intL wr (some ⟨pg, 0, none⟩) k (maskW zs fx)) := hid (by rw [hmr]; exact Hp.out.sl)
        clear hmr h0 Hp
        generalize sumI (rowW zs fx) = sr at *
        obtain ⟨wo, rfl⟩ : ∃ wo : World, wo = wr := ⟨_, rfl⟩
        go_wp2_with fail
        go_loopw [9] (fun i wr => i = .int .i64 0 ∧ wr = wo) (fun i _ => 0)
        case atStart => exact ⟨rfl, rfl⟩
        case round =>
          obtain ⟨rfl, rfl⟩ := hrel
          go_wp2_with fail
          refine (prorate_any amount _ k pc (maskW zs fx) wr Hsl.out (by omega) (by omega) (by omega) (by omega) (fun x hx => by have := HM.out x hx; omega) Hsum.out Q1.out (by have := Q2.out; omega) Q3.out).mono ?_
          rintro e w8 ⟨a8, c8, rfl, ho8, hc8, hg8⟩
          have Hp8 := hid ho8
          have Hg8 := hid (gr_trans0 Hg.out hg8)
          have hsz8 := Hg8.out.size
          have HO8 := hid (Ho.out.keep0 Hg8.out)
          generalize hP : specF amount (maskW zs fx) = P at *
          have hPl : P.length = k := ho8.len
          have HP := hid hP
          clear ho8 hg8 hP
          go_wp2_with fail
          go_loopw [11] (fun i wr' => ∃ j : Nat, j ≤ k ∧ i = .int .i64 j ∧ Ow intL wr' B (some ⟨g1, 0, none⟩) k ((addL zs P).take j ++ zs.drop j) ∧ w8.grownBy wr' (some g1)) (fun i _ => k - (intOf i).toNat)
          case atStart => exact ⟨0, by omega, rfl, by simpa using HO8.out, gr_refl _ _⟩
          case round =>
            clear HO8
            obtain ⟨j, hj, rfl, hO, hgj⟩ := hrel
            by_cases hjl : j < k
            · obtain ⟨x, hx⟩ : ∃ x, zs[j]? = some x := ⟨zs[j]'(by omega), by simp⟩
              obtain ⟨b3, o3, y, e3, hy, cy⟩ := int_at (Hp8.out.sl.keep hgj (fun h0 b off e1 e2 => by
                obtain ⟨b', off', e', hb', _⟩ := Hp8.out.mem h0
                have := Hg.out.size; have := HoB.out
                rw [e1] at e'; cases e'; cases e2; omega)) j hjl
              subst e3
              have hxb := Hz.out x (List.mem_of_getElem? hx)
              have hyb := Hb.out y (List.mem_of_getElem? hy)
              have hh := addL_here zs P j x hx (by omega)
              have ht := addL_take zs P j x y hx hy
              obtain ⟨b5, o5, v2, e5, hv3, _, _, hf3, hc3⟩ := hO.at j hjl
              simp only [Option.some.injEq, Addr.mk.injEq, and_true] at e5
              obtain ⟨rfl, rfl⟩ := e5
              rw [hh] at hv3
              obtain rfl := Option.some.inj hv3
              have cv : wr.cell? ⟨g1, j, none⟩ = some (.int .i64 x) := by have := hc3 0 _ rfl; simpa [intL] using this
              have fv : wr.frozen? ⟨g1, j, none⟩ = false := hf3 _
              have Hh := hid hh; have Ht := hid ht; have HO := hid hO; have Hgj := hid hgj
              clear hh ht hO hgj hx hy hc3 hf3
              have hi0 : (0 : Int) ≤ j := by omega
              have hi1 : (j : Int) < k := by omega
              go_wp2_with fail
              go_still_tail 12, (by kernel_rfl)
              change wpList _ _ _ _ _ wr.drew
              go_wp2_with fail
              go_roundw
              case rel =>
                refine ⟨j + 1, by omega, by go_num, ?_, gr_setCell (gr_drew Hgj.out) (.inl rfl) _⟩
                rw [← Ht.out]
                exact (HO.out.keep0 (gr_drew (gr0 _))).set j 0 x (x + y) (.int .i64 (x + y)) Hh.out (by simp [intL]) rfl j (by simp [intL])
              case measure => simp [intOf]; omega
            · obtain rfl : j = k := by omega
              have hfin := hO
              rw [List.drop_of_length_le (by omega), List.append_nil, List.take_of_length_le (by rw [addL_len _ _ (by omega)]; omega), ← HP.out] at hfin
              have HF := hid hfin
              have Hgf := hid (gr_transS (gr_any Hg8.out (some g1)) hgj)
              clear hO hfin hgj
              go_wp2_with fail
              go_end0
              exact ⟨rfl, HF.out, Hgf.out⟩

set_option maxRecDepth 100000 in
set_option maxHeartbeats 4000000 in
theorem SpecCapOk_any (a : Option Addr) (n cap : Nat) (xs : List Int) (lim : Int) (w : World) (hs : Sl intL w a n xs) (h : capOk xs lim = true) :
    Calls Try.prog 31 #[.slice a n cap, .int .i64 lim] w fun e w' => ∃ a' cap', e = .returned (.slice a' n cap') ∧ Ow intL w' w.heap.size a' n (capF xs lim) ∧ n ≤ cap' ∧ w.grownBy w' none := by
  obtain ⟨j0, ji, jz0, jz1, jz2⟩ := info_parts infoBool
  obtain ⟨f1, f2, f3, f4, f5, f6, f7, f8, f9, f10⟩ := cap_facts xs lim h
  have hl := hs.len
  rw [hl] at f1 f2 f3 f8 f9
  have Hinv := hid (capOk_facts xs lim h)
  have hv : holdersOk xs = true := by
    unfold holdersOk intsIn
    simp only [Bool.and_eq_true, within_iff', List.all_eq_true]
    exact ⟨by omega, fun x hx => by have := Hinv.out.le x hx; omega⟩
  obtain ⟨b0, off0, rfl, _⟩ := hs.mem (by omega)
  have Hs := hid hs; clear hs h
  have F7 := hid f7; clear f7
  have hlt : decide (lim * (n : Int) < 1000) = false := by simpa using f8
  go_enter Try.func31, Try.ntmps31
  go_wp2_with fail
  refine (validHolders_any _ n cap xs w Hs.out).mono ?_
  rintro e w1 ⟨rfl, rfl⟩
  rw [hv]
  go_wp2_with fail
  refine (allIn_any _ n cap xs 0 1000 w Hs.out).mono ?_
  rintro e w1 ⟨rfl, rfl⟩
  rw [f10]
  go_wp2_with fail
  refine (spectotal_any _ n cap xs w Hs.out).mono ?_
  rintro e w1 ⟨rfl, rfl⟩
  rw [F7.out]
  go_wp2_with fail
  refine (inRange_any _ _ _ _).mono ?_
  rintro e w1 ⟨rfl, rfl⟩
  rw [f4]
  go_wp2_with fail
  refine (copyInts_any _ n cap xs w Hs.out (.inl ⟨_, rfl⟩) (by omega)).mono ?_
  rintro e w3 ⟨a1, c1, rfl, ho, hg⟩
  have how : ∃ g1, a1 = ⟨g1, 0, none⟩ ∧ n ≤ c1 ∧ w.heap.size ≤ g1 := by
    rcases ho with ⟨q1, ⟨q2, q3⟩ | ⟨g, cap9, cur, q2, q3, q4, q5, q6, q7, q8⟩⟩
    · omega
    · simp only [Value.slice.injEq, Option.some.injEq] at q2
      obtain ⟨rfl, _, rfl⟩ := q2
      exact ⟨g, rfl, q5, q3⟩
  obtain ⟨g1, rfl, hc1, hg1B⟩ := how
  have Ho3 := hid (Ow.own_ints ho (by omega))
  have hg1L := (ho.lt g1 rfl).2
  have Hg3 := hid hg
  clear ho hg
  go_wp2_with (at_make; refine wpList_make_full _ rfl _ _ 55 rfl w3.heap.size 4 j0 _ 1 Try.underlying55 ji jz0 jz1 _ _ _ _ n rfl rfl rfl rfl ?c1 ?c2 ?c3 ?_)
  case c1 => rw [jz2]; omega
  case c2 => unfold maxLen; omega
  case c3 => omega
  intro w4 hown hg4
  have how : Ow boolL w4 w3.heap.size (some ⟨w3.heap.size, 0, none⟩) n (List.replicate n false) := Ow.of_made (L := boolL) (x0 := false) (by simpa [boolL] using hown) (by unfold maxLen; omega)
  obtain ⟨g2, hg2⟩ : ∃ g2, g2 = w3.heap.size := ⟨_, rfl⟩
  rw [← hg2] at how ⊢
  have Ho2 := hid (how.mono (base' := w.heap.size) (by have := Hg3.out.size; omega))
  have Ho1 := hid (Ho3.out.keep0 hg4)
  have Hg := hid (gr_trans0 Hg3.out hg4)
  have hne : g1 ≠ g2 := by omega
  have HgB : Hid (w.heap.size ≤ g1 ∧ w.heap.size ≤ g2) := hid ⟨hg1B, by have := Hg3.out.size; omega⟩
  have hne2 : ¬ g2 = g1 := fun e => hne e.symm
  have Hc1 := hid hc1
  clear how hown hg4 Ho3 Hg3 hg2 hg1L hc1 hg1B
  obtain ⟨w1, rfl⟩ : ∃ w1 : World, w1 = w := ⟨_, rfl⟩
  go_wp2_with fail
  go_loopg [7] (n + 1) (fun g p wr => ∃ (ys : List Int) (gx : List Bool), CapInv lim n ys gx ∧ gx.count false < g ∧ Hid (capN lim g ys gx = capF xs lim) ∧ Ow intL wr w1.heap.size (some ⟨g1, 0, none⟩) n ys ∧ Ow boolL wr w1.heap.size (some ⟨g2, 0, none⟩) n gx ∧ w1.grownBy wr none)
  case atStart =>
    refine ⟨xs, List.replicate n false, ?_, ?_, hid ?_, Ho1.out, Ho2.out, Hg.out⟩
    · have := Hinv.out; rwa [hl] at this
    · simp
    · unfold capF; rw [hl]
  case round =>
    clear Ho1 Ho2 Hg
    obtain ⟨ys, gx, hinv, hcnt, hcap, ho1, ho2, hg⟩ := hrel
    obtain ⟨g', rfl⟩ : ∃ g', gk = g' + 1 := ⟨gk - 1, by omega⟩
    have Hinv2 := hid hinv; clear hinv
    have Ho1 := hid ho1; clear ho1
    have Ho2 := hid ho2; clear ho2
    have Hg := hid hg; clear hg
    have Hcnt := hid hcnt; clear hcnt
    obtain ⟨wo, rfl⟩ : ∃ wo : World, wo = wr := ⟨_, rfl⟩
    go_wp2_with fail
    go_loopw [7, 8] (fun ab i wr => ∃ k : Nat, k ≤ n ∧ i = .int .i64 k ∧ ab = .int .i64 (overL lim (ys.take k)) ∧ Ow intL wr w1.heap.size (some ⟨g1, 0, none⟩) n (capL lim (ys.take k) ++ ys.drop k) ∧ Ow boolL wr w1.heap.size (some ⟨g2, 0, none⟩) n (fixL lim (ys.take k) (gx.take k) ++ gx.drop k) ∧ w1.grownBy wr none) (fun _ i _ => n - (intOf i).toNat)
    case atStart => exact ⟨0, by omega, rfl, by simp [overL, sumI], by simpa [capL] using Ho1.out, by simpa [fixL] using Ho2.out, Hg.out⟩
    case round =>
      clear Ho1 Ho2 Hg
      obtain ⟨k, hk, rfl, rfl, ho1, ho2, hg⟩ := hrel
      have hyl := Hinv2.out.len
      have hgl := Hinv2.out.flen
      have hov0 := over_nonneg lim (ys.take k)
      have hov1 := over_bd lim (ys.take k) f5 (fun x hx => Hinv2.out.le x (List.mem_of_mem_take hx))
      have htl : (ys.take k).length ≤ 8 := by rw [List.length_take]; omega
      have hov2 : overL lim (ys.take k) ≤ 8000 := by omega
      clear hov1
      by_cases hlt : k < n
      · obtain ⟨x, hx⟩ : ∃ x, ys[k]? = some x := ⟨ys[k]'(by omega), by simp⟩
        obtain ⟨f, hf⟩ : ∃ f, gx[k]? = some f := ⟨gx[k]'(by omega), by simp⟩
        have hxb := Hinv2.out.le x (List.mem_of_getElem? hx)
        obtain ⟨b3, o3, z, e3, hz, _, _, hfr, hcc⟩ := ho1.at k hlt
        simp only [Option.some.injEq, Addr.mk.injEq, and_true] at e3
        obtain ⟨rfl, rfl⟩ := e3
        rw [capSt_at lim ys k x hx] at hz
        obtain rfl := Option.some.inj hz
        have cx : wr.cell? ⟨g1, k, none⟩ = some (.int .i64 x) := by have := hcc 0 _ rfl; simpa [intL] using this
        have fx : wr.frozen? ⟨g1, k, none⟩ = false := hfr _
        clear hfr hcc hz
        obtain ⟨b3, o3, z, e3, hz, _, _, hfr, hcc⟩ := ho2.at k hlt
        simp only [Option.some.injEq, Addr.mk.injEq, and_true] at e3
        obtain ⟨rfl, rfl⟩ := e3
        rw [fixSt_at lim ys gx k x f hx hf] at hz
        obtain rfl := Option.some.inj hz
        have cf : wr.cell? ⟨g2, k, none⟩ = some (.bool f) := by have := hcc 0 _ rfl; simpa [boolL] using this
        have ff : wr.frozen? ⟨g2, k, none⟩ = false := hfr _
        clear hfr hcc hz
        have Ho1 := hid ho1; have Ho2 := hid ho2; have Hg := hid hg
        have Hx := hid hx; have Hf := hid hf
        have hos := over_snoc lim ys k x hx
        have Hos := hid hos
        have hi0 : (0 : Int) ≤ k := by omega
        have hi1 : (k : Int) < n := by omega
        clear ho1 ho2 hg hx hf hos htl
        generalize overL lim (ys.take k) = ov at *
        by_cases hlx : lim < x
        · have hex : exX lim x = x - lim := by unfold exX; rw [if_pos hlx]
          have Hex := hid hex; clear hex
          have cf2 : (wr.setCell ⟨g1, k, none⟩ (.int .i64 lim)).cell? ⟨g2, k, none⟩ = some (.bool f) := by rw [cell_set_other (by omega)]; exact cf
          go_wp2_with fail
          go_roundw
          case rel =>
            refine ⟨k + 1, by omega, by go_num, ?_, ?_, ?_, ?_⟩
            · rw [Hos.out, Hex.out]; congr 1; omega
            · have := Ho1.out.set k 0 x lim (.int .i64 lim) (capSt_at lim ys k x Hx.out) (by simp [intL]) rfl k (by simp [intL])
              rw [capSt_hi lim ys k x Hx.out hlx] at this
              exact this.keep (gr_setCell (r := some g2) (gr_refl _ _) (.inl rfl) _) (fun _ b off e1 e2 => by cases e1; cases e2; exact hne rfl)
            · have := (Ho2.out.keep (gr_setCell (r := some g1) (p := ⟨g1, k, none⟩) (gr_refl _ _) (.inl rfl) (.int .i64 lim)) (fun _ b off e1 e2 => by cases e1; cases e2; exact hne rfl)).set k 0 f true (.bool true) (fixSt_at lim ys gx k x f Hx.out Hf.out) (by simp [boolL]) rfl k (by simp [boolL])
              rw [fixSt_hi lim ys gx k x f Hx.out Hf.out hlx] at this
              exact this
            · exact gr_setCell (gr_setCell Hg.out (.inr HgB.out.1) _) (.inr HgB.out.2) _
          case measure => simp [intOf]; omega
        · have hex : exX lim x = 0 := by unfold exX; rw [if_neg hlx]
          have Hex := hid hex; clear hex
          go_wp2_with fail
          go_roundw
          case rel =>
            refine ⟨k + 1, by omega, by go_num, ?_, ?_, ?_, Hg.out⟩
            · rw [Hos.out, Hex.out]; congr 1; omega
            · rw [← capSt_lo lim ys k x Hx.out hlx]; exact Ho1.out
            · rw [← fixSt_lo lim ys gx k x f Hx.out Hf.out hlx]; exact Ho2.out
          case measure => simp [intOf]; omega
      · obtain rfl : k = n := by omega
        have tk : ys.take k = ys := List.take_of_length_le (by omega)
        have tg : gx.take k = gx := List.take_of_length_le (by omega)
        have dk : ys.drop k = [] := List.drop_of_length_le (by omega)
        have dg : gx.drop k = [] := List.drop_of_length_le (by omega)
        rw [tk, dk, List.append_nil] at ho1
        rw [tk, tg, dg, List.append_nil] at ho2
        rw [tk] at hov0 hov2 ⊢
        clear tk tg dk dg htl
        have Ho1 := hid ho1; have Ho2 := hid ho2; have Hg := hid hg
        clear ho1 ho2 hg
        have hcs := hcap.out
        rw [capN_succ] at hcs
        by_cases h0 : overL lim ys = 0
        · rw [if_pos h0] at hcs
          have hcl := (over_zero lim ys h0).2
          have HR : Hid (Ow intL wr w1.heap.size (some ⟨g1, 0, none⟩) k (capF xs lim)) := hid (by rw [← hcs]; have := Ho1.out; rwa [hcl] at this)
          clear hcs hcl Ho1 Ho2
          rw [h0]
          go_wp2_with fail
          go_ret
          exact ⟨_, _, rfl, HR.out, Hc1.out, Hg.out⟩
        · rw [if_neg h0] at hcs
          have Hcs := hid hcs; clear hcs
          have hb0 : (overL lim ys == 0) = false := by simpa using h0
          obtain ⟨r1, r2, r3, r4, r5, r6, r7, r8, r9, r10⟩ := cap_round lim k ys gx Hinv2.out h0
          clear h0
          have hfk : (fixL lim ys gx).length = (capL lim ys).length := by rw [fix_len lim ys gx (by omega), cap_len]; omega
          have hme := mask_expand (capL lim ys) (fixL lim ys gx) hfk
          have hms : marks (freeL (fixL lim ys gx)) = (onesIf (pick (freeL (fixL lim ys gx)) (capL lim ys))).length := by rw [r6]
          obtain ⟨q1, q2, q3⟩ := quos_facts (overL lim ys) _ r7 r8 (by omega) (by omega)
          have hsm := shares_mask (overL lim ys) (freeL (fixL lim ys gx)) _ hms r8 q1 (by unfold leftOf; omega)
          rw [← hme] at hsm
          have hround : roundF lim ys gx = addL (capL lim ys) (specF (overL lim ys) (maskW (capL lim ys) (fixL lim ys gx))) := by rw [hsm]; rfl
          have hms2 : 0 < sumI (maskW (capL lim ys) (fixL lim ys gx)) := by rw [hme, expand_sum _ _ hms]; exact r8
          have hshs := shares_sum (overL lim ys) _ q1 (by unfold leftOf; omega)
          have hshp := shares_pos (overL lim ys) _ (by omega) (fun x hx => ((holders_facts _ r7).2.2.1 x hx).1) r8
          have hsb : ∀ x ∈ specF (overL lim ys) (maskW (capL lim ys) (fixL lim ys gx)), 0 ≤ x ∧ x ≤ 1000 := by
            intro x hx
            rw [hsm] at hx
            rcases expand_mem' _ _ _ hx with h | h
            · omega
            · exact ⟨hshp x h, by have := mem_le_sum _ hshp x h; omega⟩
          have hcb : ∀ x ∈ capL lim ys, 0 ≤ x ∧ x ≤ 1000 := by
            intro x hx
            unfold capL at hx
            obtain ⟨u, hu, rfl⟩ := List.mem_map.1 hx
            have := Hinv2.out.le u hu
            unfold capX; split <;> omega
          have Hsb := hid hsb; have Hcb := hid hcb; have Hround := hid hround; have Hms2 := hid hms2
          have R9 := hid r9; have R10 := hid r10
          clear r3 r4 r5 r6 r7 r8 r9 r10 hfk hme hms q1 q2 q3 hsm hround hms2 hshs hshp hsb hcb
          generalize hov : overL lim ys = ov at *
          have Hov := hid hov; clear hov
          go_wp2_with fail
          refine (spread_any g1 g2 k c1 w1.heap.size (capL lim ys) (fixL lim ys gx) ov wr Ho1.out Ho2.out.sl hne f1 f2 Hcb.out r1 r2 Hms2.out Hsb.out).mono ?_
          rintro e w5 ⟨rfl, ho5, hg5⟩
          have HF := hid ho5
          have Hb2 : Hid (Ow boolL w5 w1.heap.size (some ⟨g2, 0, none⟩) k (fixL lim ys gx)) := hid (Ho2.out.keep hg5 (fun _ b off e1 e2 => by cases e1; cases e2; exact hne rfl))
          have Hgw : Hid (w1.grownBy w5 none) := hid (gr_own Hg.out hg5 (fun g e => by cases e; exact HgB.out.1))
          clear ho5 hg5
          go_wp2_with fail
          go_roundg g'
          case measure => omega
          case rel => exact ⟨_, _, R9.out, by have := R10.out; have := Hcnt.out; omega, Hcs, by rw [Hround.out]; exact HF.out, Hb2.out, Hgw.out⟩

end Go.Proofs.Ytecboohippbliaa

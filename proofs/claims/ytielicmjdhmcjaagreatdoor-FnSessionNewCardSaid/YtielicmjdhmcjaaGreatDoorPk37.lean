/- Packed: Maps. -/
import Derived.Test.YtielicmjdhmcjaaGreatDoorRows
import Derived.Test.YtielicmjdhmcjaaGreatDoorPk10
import Derived.Test.YtielicmjdhmcjaaGreatDoorPk36
import Derived.Test.YtielicmjdhmcjaaGreatDoorPk24
import Derived.Test.YtielicmjdhmcjaaGreatDoorPk02
import Derived.WideMake
/- Maps with text keys in memory: a new map, an entry behind the others, a look at a key; Cut and Split at a space. -/
namespace Go.Proofs.YtielicmjdhmcjaaGreatDoor
open Go.RowKit

def lookK : List (List UInt8 × Value) → List UInt8 → Option Value
  | [], _ => none
  | p :: ps, k => if k = p.1 then some p.2 else lookK ps k
theorem key_eq (a b : List UInt8) : ((⟨a.toArray⟩ : ByteArray) == ⟨b.toArray⟩) = decide (a = b) := by
  by_cases h : a = b
  · subst h
    rw [(MapKept.bytes_beq _ _).2 rfl]; simp
  · rw [decide_eq_false h]
    cases e : ((⟨a.toArray⟩ : ByteArray) == ⟨b.toArray⟩) with
    | false => rfl
    | true =>
      have := (MapKept.bytes_beq _ _).1 e
      simp at this
      exact (h this).elim
theorem find_step (k k' : List UInt8) (v : Value) (c : Nat) (es : List MapEntry) (i : Nat) : Instr.findNow .string (.string ⟨(k).toArray⟩) (⟨.string ⟨(k').toArray⟩, v, c⟩ :: es) i = if k = k' then some (some (i, v)) else Instr.findNow .string (.string ⟨(k).toArray⟩) es (i + 1) := by
  have h : Instr.sameNow .string (.string ⟨(k).toArray⟩) (.string ⟨(k').toArray⟩) = some (decide (k = k')) := by rw [← key_eq]; rfl
  rw [Instr.findNow]
  simp only [h]
  by_cases hk : k = k'
  · rw [decide_eq_true hk, if_pos hk]
  · rw [decide_eq_false hk, if_neg hk]
theorem find_of : ∀ (es : List MapEntry) (kvs : List (List UInt8 × Value)), es.map (fun e => (e.key, e.val)) = kvs.map (fun p => (.string ⟨(p.1).toArray⟩, p.2)) → ∀ (k : List UInt8) (i : Nat),
    (lookK kvs k = none → Instr.findNow .string (.string ⟨(k).toArray⟩) es i = some none) ∧ (∀ v, lookK kvs k = some v → ∃ j, Instr.findNow .string (.string ⟨(k).toArray⟩) es i = some (some (j, v)))
  | [], [], _, k, i => ⟨fun _ => rfl, fun v h => by cases h⟩
  | [], _ :: _, h, _, _ => by simp at h
  | _ :: _, [], h, _, _ => by simp at h
  | ⟨ek, ev, ec⟩ :: es, (pk, pv) :: ps, h, k, i => by
    simp only [List.map_cons, List.cons.injEq, Prod.mk.injEq] at h
    obtain ⟨⟨rfl, rfl⟩, h3⟩ := h
    have ih := find_of es ps h3 k (i + 1)
    rw [find_step, lookK]
    by_cases hk : k = pk
    · rw [if_pos hk, if_pos hk]
      exact ⟨fun h => (by cases h), fun v hv => ⟨i, by cases hv; rfl⟩⟩
    · rw [if_neg hk, if_neg hk]
      exact ih
def MapIs (w : World) (r : Nat) (kvs : List (List UInt8 × Value)) : Prop := ∃ (es : Array MapEntry) (c : Nat), w.heap[r]? = some (.map es c) ∧ es.toList.map (fun e => (e.key, e.val)) = kvs.map (fun p => (.string ⟨(p.1).toArray⟩, p.2))
theorem MapIs.keep {w w' : World} {r : Nat} {kvs : List (List UInt8 × Value)} (h : MapIs w r kvs) (k : ∀ (b : Nat) (o : Obj), w.heap[b]? = some o → w'.heap[b]? = some o) : MapIs w' r kvs := by
  obtain ⟨es, c, h1, h2⟩ := h
  exact ⟨es, c, k _ _ h1, h2⟩
theorem MapIs.keep0 {w w' : World} {r : Nat} {kvs : List (List UInt8 × Value)} (h : MapIs w r kvs) (g : w.grownBy w' none) : MapIs w' r kvs := MapIs.keep h fun _ _ hb => blk_keep hb g (by simp)
theorem map_new (w : World) : MapIs (w.alloc (.map #[] 0)) w.heap.size [] := ⟨#[], 0, heap_alloc_new w _, rfl⟩
theorem map_put {mty et : TypeId} (hm : Tryz.prog.underlying mty = some (.map 9 et)) {w W : World} {r : Nat} {kvs : List (List UInt8 × Value)} (k : List UInt8) (v : Value) (h : MapIs W r kvs) (hk : lookK kvs k = none) (hg : w.grownBy W none) (hr : w.heap.size ≤ r) :
    ∃ W', (Instr.mapUpdate mty (.map (some r)) (.string ⟨(k).toArray⟩) v).run Tryz.prog W = .ok () W' ∧ MapIs W' r (kvs ++ [(k, v)]) ∧ w.grownBy W' none ∧ (∀ b, b ≠ r → W'.heap[b]? = W.heap[b]?) ∧ W'.heap.size = W.heap.size := by
  obtain ⟨es, c, hb, he⟩ := h
  have hf := (find_of es.toList kvs he k 0).1 hk
  have hs := MapKept.heap_set (o' := Obj.map (es.push ⟨.string ⟨(k).toArray⟩, v, c⟩) (c + 1)) hb
  refine ⟨{ W with heap := W.heap.setIfInBounds r (.map (es.push ⟨.string ⟨(k).toArray⟩, v, c⟩) (c + 1)) }, ?_, ⟨_, _, hs.1, ?_⟩, ?_, hs.2, by simp⟩
  · have hkey : Tryz.prog.underlying 9 = some .string := Tryz.underlying9
    have hc : (Instr.checkKey false 10000 9 (.string ⟨(k).toArray⟩)).run Tryz.prog W = .ok () W := MapKept.run_checkKey hkey (by simp [MapKept.IsKey]) false 9999
    simp [Instr.mapUpdate, run_underlying hm, MapKept.run_getObj_map hb, hc, MapKept.run_findKey hkey hf, MapKept.run_setObj_map _ hb, Result.andThen]
  · simp [he]
  · exact ⟨hg.os, hg.tape, hg.output, by simpa using hg.size, fun i hi hn => by
      show (W.heap.setIfInBounds r _)[i]? = _
      rw [hs.2 i (by omega)]; exact hg.block i hi hn⟩
theorem map_look {mty et : TypeId} (hm : Tryz.prog.underlying mty = some (.map 9 et)) {w : World} {r : Nat} {kvs : List (List UInt8 × Value)} (k : List UInt8) (v : Value) (h : MapIs w r kvs) (hk : lookK kvs k = some v) :
    (Instr.lookup mty (.map (some r)) (.string ⟨(k).toArray⟩) true).run Tryz.prog w = .ok (.tuple #[v, .bool true]) w := by
  obtain ⟨es, c, hb, he⟩ := h
  obtain ⟨j, hf⟩ := (find_of es.toList kvs he k 0).2 v hk
  have hkey : Tryz.prog.underlying 9 = some .string := Tryz.underlying9
  have hc : ∀ e, (Instr.checkKey e 10000 9 (.string ⟨(k).toArray⟩)).run Tryz.prog w = .ok () w := fun e => MapKept.run_checkKey hkey (by simp [MapKept.IsKey]) e 9999
  simp [Instr.lookup, run_underlying hm, MapKept.run_getObj_map hb, hc, MapKept.run_findKey hkey hf, Result.andThen]
theorem map_miss {mty et : TypeId} (hm : Tryz.prog.underlying mty = some (.map 9 et)) {z : Value} (hz : ∀ w, (zeroValue et).run Tryz.prog w = .ok z w) {w : World} {r : Nat} {kvs : List (List UInt8 × Value)} (k : List UInt8) (h : MapIs w r kvs) (hk : lookK kvs k = none) :
    (Instr.lookup mty (.map (some r)) (.string ⟨(k).toArray⟩) true).run Tryz.prog w = .ok (.tuple #[z, .bool false]) w := by
  obtain ⟨es, c, hb, he⟩ := h
  have hf := (find_of es.toList kvs he k 0).1 hk
  have hkey : Tryz.prog.underlying 9 = some .string := Tryz.underlying9
  have hc : ∀ e, (Instr.checkKey e 10000 9 (.string ⟨(k).toArray⟩)).run Tryz.prog w = .ok () w := fun e => MapKept.run_checkKey hkey (by simp [MapKept.IsKey]) e 9999
  simp [Instr.lookup, run_underlying hm, MapKept.run_getObj_map hb, hc, MapKept.run_findKey hkey hf, hz, Result.andThen]

theorem spl_count : ∀ (xs cur : List UInt8), (spl cur xs).length ≤ xs.length + 1
  | [], cur => by simp [spl]
  | c :: cs, cur => by
    rw [spl]
    split
    · have := spl_count cs []; simp only [List.length_cons]; omega
    · have := spl_count cs (cur ++ [c]); simp only [List.length_cons]; omega
theorem cut_any (l : List UInt8) (w : World) (hm : Laid4 w) (hl : l.length ≤ 2000000) :
    Calls Tryz.prog 32 #[.string ⟨(l).toArray⟩, .string ⟨#[32]⟩] w fun e w' => e = .returned (.tuple #[.string ⟨((Lib.cut l [32]).1).toArray⟩, .string ⟨((Lib.cut l [32]).2.1).toArray⟩, .bool (Lib.cut l [32]).2.2]) ∧ w.grownBy w' none := by
  obtain ⟨m, hmx⟩ := hm.mx
  refine (Tryz.strings_Cut ⟨l.toArray⟩ ⟨#[32]⟩ m w (by show l.toArray.size < _; rw [List.size_toArray]; omega) hmx).mono ?_
  rintro e w' ⟨rfl, n, rfl⟩
  exact ⟨rfl, gr_drewN (gr_refl _ _) n⟩
theorem split_any (l : List UInt8) (w : World) (hm : Laid4 w) (hl : l.length ≤ 2000000) :
    Calls Tryz.prog 33 #[.string ⟨(l).toArray⟩, .string ⟨#[32]⟩] w fun e w' => ∃ n, e = .returned (.slice (some ⟨w.heap.size, 0, none⟩) n n) ∧ Sl strL w' (some ⟨w.heap.size, 0, none⟩) n (spl [] l) ∧ w.grownBy w' none ∧ n ≤ 2000001 := by
  obtain ⟨m, hmx⟩ := hm.mx
  refine (Tryz.strings_Split ⟨l.toArray⟩ ⟨#[32]⟩ m w (by show l.toArray.size < _; rw [List.size_toArray]; omega) hmx (by decide)).mono ?_
  rintro e w' ⟨rfl, rfl⟩
  have hc : Lib.countB ⟨l.toArray⟩ ⟨#[32]⟩ + 1 = (spl [] l).length := count_spl _ l (Nat.lt_succ_self _)
  have hsp := splitB_spl l.length l (Nat.le_refl _) (Lib.countB ⟨l.toArray⟩ ⟨#[32]⟩) (by omega)
  have hle : (spl [] l).length ≤ 2000001 := by have := spl_count l []; omega
  refine ⟨_, rfl, ?_, gr_alloc (gr_refl _ _) _, by omega⟩
  rw [hsp, hc]
  refine ⟨rfl, by unfold maxLen; omega, fun _ => ⟨_, _, rfl, by simp, fun k x hx j c hj => ?_⟩⟩
  have hj0 : j = 0 := by
    have := lt_of_at hj
    simp [strL] at this; exact this
  subst hj0
  refine blk_cell (heap_alloc_new w _) _ _ ?_
  simp [strL] at hj ⊢
  exact ⟨x, hx, hj⟩
end Go.Proofs.YtielicmjdhmcjaaGreatDoor

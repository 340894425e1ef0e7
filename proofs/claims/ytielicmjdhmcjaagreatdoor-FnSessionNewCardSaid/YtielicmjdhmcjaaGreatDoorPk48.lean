/- Packed: Answer. -/
import Derived.Test.YtielicmjdhmcjaaGreatDoorRows
import Derived.Test.YtielicmjdhmcjaaGreatDoorPk35
import Derived.Test.YtielicmjdhmcjaaGreatDoorPk47
import Derived.Test.YtielicmjdhmcjaaGreatDoorPk37
/- A line executed by the program's desk: the tables of commands. -/
namespace Go.Proofs.YtielicmjdhmcjaaGreatDoor
open Go.RowKit

def textsK (sb : Nat) : List (List UInt8 × Value) := [(bondW, (Value.func (.func 23) #[Value.pointer (some ⟨sb, 0, none⟩)] #[])), (dayW, (Value.func (.func 24) #[Value.pointer (some ⟨sb, 0, none⟩)] #[]))]
def cmdsK (sb : Nat) : List (List UInt8 × Value) := [(accW, (Value.agg #[.int .i64 0, .func (.func 25) #[Value.pointer (some ⟨sb, 0, none⟩)] #[]])), (totW, (Value.agg #[.int .i64 0, .func (.func 26) #[Value.pointer (some ⟨sb, 0, none⟩)] #[]])), (buyW, (Value.agg #[.int .i64 2, .func (.func 27) #[Value.pointer (some ⟨sb, 0, none⟩)] #[]])), (sellW, (Value.agg #[.int .i64 2, .func (.func 28) #[Value.pointer (some ⟨sb, 0, none⟩)] #[]])), (posW, (Value.agg #[.int .i64 0, .func (.func 29) #[Value.pointer (some ⟨sb, 0, none⟩)] #[]])), (gainW, (Value.agg #[.int .i64 0, .func (.func 30) #[Value.pointer (some ⟨sb, 0, none⟩)] #[]])), (priceW, (Value.agg #[.int .i64 1, .func (.func 31) #[Value.pointer (some ⟨sb, 0, none⟩)] #[]]))]

theorem MapIs.keepO {W W' : World} {r r2 : Nat} {kvs : List (List UInt8 × Value)} (h : MapIs W r kvs) (hne : r ≠ r2) (o : ∀ b, b ≠ r2 → W'.heap[b]? = W.heap[b]?) : MapIs W' r kvs := by
  obtain ⟨es, c, h1, h2⟩ := h
  exact ⟨es, c, by rw [o r hne]; exact h1, h2⟩

theorem tables (sb : Nat) (w : World) : ∃ W1 W2 V1 V2 V3 V4 V5 V6 V7 : World,
    ((Instr.mapUpdate 56 (.map (some w.heap.size)) (.string ⟨#[98, 111, 110, 100]⟩) (Value.func (.func 23) #[Value.pointer (some ⟨sb, 0, none⟩)] #[])).run Tryz.prog (w.alloc (.map #[] 0)) = .ok () W1 ∧ (Instr.mapUpdate 56 (.map (some w.heap.size)) (.string ⟨#[100, 97, 121]⟩) (Value.func (.func 24) #[Value.pointer (some ⟨sb, 0, none⟩)] #[])).run Tryz.prog W1 = .ok () W2) ∧
    ((Instr.mapUpdate 60 (.map (some W2.heap.size)) (.string ⟨#[97, 99, 99, 114, 117, 101, 100]⟩) (Value.agg #[.int .i64 0, .func (.func 25) #[Value.pointer (some ⟨sb, 0, none⟩)] #[]])).run Tryz.prog (W2.alloc (.map #[] 0)) = .ok () V1 ∧ (Instr.mapUpdate 60 (.map (some W2.heap.size)) (.string ⟨#[116, 111, 116, 97, 108]⟩) (Value.agg #[.int .i64 0, .func (.func 26) #[Value.pointer (some ⟨sb, 0, none⟩)] #[]])).run Tryz.prog V1 = .ok () V2 ∧ (Instr.mapUpdate 60 (.map (some W2.heap.size)) (.string ⟨#[98, 117, 121]⟩) (Value.agg #[.int .i64 2, .func (.func 27) #[Value.pointer (some ⟨sb, 0, none⟩)] #[]])).run Tryz.prog V2 = .ok () V3 ∧ (Instr.mapUpdate 60 (.map (some W2.heap.size)) (.string ⟨#[115, 101, 108, 108]⟩) (Value.agg #[.int .i64 2, .func (.func 28) #[Value.pointer (some ⟨sb, 0, none⟩)] #[]])).run Tryz.prog V3 = .ok () V4 ∧ (Instr.mapUpdate 60 (.map (some W2.heap.size)) (.string ⟨#[112, 111, 115, 105, 116, 105, 111, 110]⟩) (Value.agg #[.int .i64 0, .func (.func 29) #[Value.pointer (some ⟨sb, 0, none⟩)] #[]])).run Tryz.prog V4 = .ok () V5 ∧ (Instr.mapUpdate 60 (.map (some W2.heap.size)) (.string ⟨#[103, 97, 105, 110]⟩) (Value.agg #[.int .i64 0, .func (.func 30) #[Value.pointer (some ⟨sb, 0, none⟩)] #[]])).run Tryz.prog V5 = .ok () V6 ∧ (Instr.mapUpdate 60 (.map (some W2.heap.size)) (.string ⟨#[112, 114, 105, 99, 101]⟩) (Value.agg #[.int .i64 1, .func (.func 31) #[Value.pointer (some ⟨sb, 0, none⟩)] #[]])).run Tryz.prog V6 = .ok () V7) ∧
    MapIs V7 w.heap.size (textsK sb) ∧ MapIs V7 W2.heap.size (cmdsK sb) ∧ w.grownBy V7 none := by
  have u1 := Tryz.underlying56
  have u2 := Tryz.underlying60
  obtain ⟨W1, i1, m1, g1, o1, s1⟩ := map_put (w := w) u1 bondW (Value.func (.func 23) #[Value.pointer (some ⟨sb, 0, none⟩)] #[]) (map_new w) rfl (gr_alloc (gr_refl _ _) _) (Nat.le_refl _)
  obtain ⟨W2, i2, m2, g2, o2, s2⟩ := map_put u1 dayW (Value.func (.func 24) #[Value.pointer (some ⟨sb, 0, none⟩)] #[]) m1 rfl g1 (Nat.le_refl _)
  have hne : w.heap.size ≠ W2.heap.size := by rw [s2, s1]; simp
  have m2' := m2.keep0 (gr_alloc (gr_refl W2 none) (.map #[] 0))
  have hle := gr_le g2
  obtain ⟨V1, j1, n1, h1, p1, _⟩ := map_put u2 accW (Value.agg #[.int .i64 0, .func (.func 25) #[Value.pointer (some ⟨sb, 0, none⟩)] #[]]) (map_new W2) rfl (gr_alloc g2 _) hle
  obtain ⟨V2, j2, n2, h2, p2, _⟩ := map_put u2 totW (Value.agg #[.int .i64 0, .func (.func 26) #[Value.pointer (some ⟨sb, 0, none⟩)] #[]]) n1 rfl h1 hle
  obtain ⟨V3, j3, n3, h3, p3, _⟩ := map_put u2 buyW (Value.agg #[.int .i64 2, .func (.func 27) #[Value.pointer (some ⟨sb, 0, none⟩)] #[]]) n2 rfl h2 hle
  obtain ⟨V4, j4, n4, h4, p4, _⟩ := map_put u2 sellW (Value.agg #[.int .i64 2, .func (.func 28) #[Value.pointer (some ⟨sb, 0, none⟩)] #[]]) n3 rfl h3 hle
  obtain ⟨V5, j5, n5, h5, p5, _⟩ := map_put u2 posW (Value.agg #[.int .i64 0, .func (.func 29) #[Value.pointer (some ⟨sb, 0, none⟩)] #[]]) n4 rfl h4 hle
  obtain ⟨V6, j6, n6, h6, p6, _⟩ := map_put u2 gainW (Value.agg #[.int .i64 0, .func (.func 30) #[Value.pointer (some ⟨sb, 0, none⟩)] #[]]) n5 rfl h5 hle
  obtain ⟨V7, j7, n7, h7, p7, _⟩ := map_put u2 priceW (Value.agg #[.int .i64 1, .func (.func 31) #[Value.pointer (some ⟨sb, 0, none⟩)] #[]]) n6 rfl h6 hle
  exact ⟨W1, W2, V1, V2, V3, V4, V5, V6, V7, ⟨i1, i2⟩, ⟨j1, j2, j3, j4, j5, j6, j7⟩, ((((((m2'.keepO hne p1).keepO hne p2).keepO hne p3).keepO hne p4).keepO hne p5).keepO hne p6).keepO hne p7, n7, h7⟩

end Go.Proofs.YtielicmjdhmcjaaGreatDoor

/- Packed: RunSess. -/
import Derived.Test.YtielicmjdhmcjaaGreatDoorRows
import Derived.Test.YtielicmjdhmcjaaGreatDoorPk04
import Derived.Test.YtielicmjdhmcjaaGreatDoorPk49
import Derived.Lib.MinMax
/- RunSession of the program. -/
namespace Go.Proofs.YtielicmjdhmcjaaGreatDoor
open Go.RowKit

theorem gr_thenBelow {w w1 w2 : World} {B : Nat} (h : w.grownBy w1 none) (g : Below B w1 w2) (hB : w.heap.size ≤ B) : w.grownBy w2 none :=
  ⟨g.os.trans h.os, g.tape.trans h.tape, g.output.trans h.output, Nat.le_trans h.size g.size, fun i hi hn => (g.block i (by omega)).trans (h.block i hi hn)⟩
theorem bld_keep {T e B b : Nat} {bs : List Value} {w w' : World} {db : Nat} (h : Lib.IsBuilderF T e B b bs w) (g : w.grownBy w' (some db)) (hdb : db < B) : Lib.IsBuilderF T e B b bs w' := by
  have one : ∀ p, Lib.BuilderAtF T e B b p bs w → Lib.BuilderAtF T e B b p bs w' := fun p ⟨hB, v, hb, hown, hne⟩ =>
    ⟨hB, v, blk_keep hb g (fun k e => by cases e; omega), hown.kept g (.inr fun e => by have := (hown.lt _ e).1; omega), hne⟩
  exact h.elim (fun x => .inl (one _ x)) (fun x => .inr (one _ x))
theorem bld_block {T e B b : Nat} {bs : List Value} {w : World} (h : Lib.IsBuilderF T e B b bs w) : ∃ cs fz, w.heap[b]? = some (.cells cs T fz) := by
  rcases h with ⟨_, v, hb, _⟩ | ⟨_, v, hb, _⟩ <;> exact ⟨_, _, hb⟩
theorem DeskAt.others {T : Nat} {w w' : World} {sb bb : Nat} {s : Desk} (h : DeskAt T w sb s) (k : Lib.OthersKept 5 (some bb) w w') (hT : T ≠ 5) (hne : sb ≠ bb) (hb : ∃ cs fz, w.heap[bb]? = some (.cells cs 43 fz)) : DeskAt T w' sb s := by
  obtain ⟨a, n, cap, h⟩ := h
  obtain ⟨cb, fb, hb⟩ := hb
  have hk : ∀ b off, a = some ⟨b, off, none⟩ → ∃ cs fz, w.heap[b]? = some (.cells cs 98 fz) ∧ w'.heap[b]? = some (.cells cs 98 fz) := fun b off e => by
    obtain ⟨cs, fz, h9⟩ := h.ty b off e
    refine ⟨cs, fz, h9, k b _ h9 (fun e2 => ?_) (fun c fz e2 => by cases e2)⟩
    cases e2
    rw [h9] at hb; cases hb
  refine ⟨a, n, cap, k sb _ h.c (fun e => hne (by cases e; rfl)) (fun c fz e => hT (by cases e; rfl)), ⟨h.s.len, h.s.big, fun h0 => ?_⟩, h.nc, h.nil, h.ne, fun b off e => ?_⟩
  · obtain ⟨b, off, e, hlt, hc⟩ := h.s.mem h0
    obtain ⟨cs, fz, h1, h2⟩ := hk b off e
    refine ⟨b, off, e, blk_lt h2, fun i x hx j c hj => ?_⟩
    have := hc i x hx j c hj
    rw [Lib.cell_of_heap h1] at this
    rw [Lib.cell_of_heap h2]; exact this
  · obtain ⟨cs, fz, _, h2⟩ := hk b off e
    exact ⟨cs, fz, h2⟩
theorem bld_new {w : World} {b : Nat} (h : w.heap[b]? = some (Obj.cells #[.pointer none, .slice none 0 0] 43)) : Lib.IsBuilderF 43 5 b b (Lib.byteCells []) w :=
  .inl ⟨Nat.le_refl _, _, h, World.ownsRowF_nil _ _ _ _, by simp [Value.ownBlock]⟩

set_option maxRecDepth 100000 in
set_option maxHeartbeats 2000000 in
theorem RunSession_any (a : Option Addr) (n cap : Nat) (ls : List (List UInt8)) (w : World) (hs : Sl strL w a n ls) (hm : Laid4 w) (hl : ∀ x ∈ ls, x.length ≤ 2000000) (hnc : n ≤ cap) (hnil : a = none → n = 0 ∧ cap = 0) :
    Calls Tryz.prog 8 #[.slice a n cap] w fun e w' => e = .returned (.string ⟨(sessT ls).toArray⟩) ∧ w.grownBy w' none := by
  have Hs := hid hs
  have Hm := hid hm
  have hlen := hs.len
  have hbig := hs.big
  unfold maxLen at hbig
  have HD0 := hid ((desk_zero (heap_alloc_new w (Obj.cells #[.int .i64 0, .int .i64 0, .int .i64 0, .int .i64 0, .int .i64 0, .slice none 0 0] 40))).keep0 (gr_alloc (gr_refl _ _) (Obj.cells #[.pointer none, .slice none 0 0] 43)))
  have HB0 := hid (bld_new (heap_alloc_new (w.alloc (Obj.cells #[.int .i64 0, .int .i64 0, .int .i64 0, .int .i64 0, .int .i64 0, .slice none 0 0] 40)) (Obj.cells #[.pointer none, .slice none 0 0] 43)))
  have HG0 := hid (gr_alloc (gr_alloc (gr0 w) (Obj.cells #[.int .i64 0, .int .i64 0, .int .i64 0, .int .i64 0, .int .i64 0, .slice none 0 0] 40)) (Obj.cells #[.pointer none, .slice none 0 0] 43))
  obtain ⟨m, hmn⟩ : ∃ m : Nat, m = min n 20 := ⟨_, rfl⟩
  have hmin : min (n : Int) 20 = (m : Int) := by omega
  have hmx : max (m : Int) 0 = (m : Int) := by omega
  have hm1 : m ≤ n := by omega
  have hm2 : m ≤ 20 := by omega
  have HM := hid hmn
  clear hs hm hmn
  go_enter Tryz.func8, Tryz.ntmps8
  go_wp2_with fail
  clear hmin hmx
  go_loopw [15] (fun i wr => ∃ k : Nat, k ≤ m ∧ i = .int .i64 k ∧ Hid (DeskAt 40 wr w.heap.size (deskL desk0 (ls.take k))) ∧ Hid (Lib.IsBuilderF 43 5 (w.heap.size + 1) (w.heap.size + 1) (Lib.byteCells (runL desk0 (ls.take k))) wr) ∧ Hid (w.grownBy wr none)) (fun i _ => m - (intOf i).toNat)
  case atStart => exact ⟨0, by omega, rfl, HD0, hid (by have := HB0.out; simpa [runL] using this), HG0⟩
  case round =>
    obtain ⟨k, hk, rfl, HD, HB, HG⟩ := hrel
    clear HD0 HB0 HG0
    by_cases hlt : k < m
    · have hd1 : decide (k < m) = true := by simpa using hlt
      obtain ⟨b, off, x, rfl, hx, hcell⟩ := text_at (Hs.out.keep0 HG.out) k (by omega)
      have hxl := hl x (List.mem_of_getElem? hx)
      have HL := hid (answer_any w.heap.size (deskL desk0 (ls.take k)) x wr HD.out (desk0_ok.lines _) (Hm.out.keep0 HG.out) hxl)
      have hr := runL_le (ls.take k) desk0
      rw [List.length_take] at hr
      have hy := line_le (deskL desk0 (ls.take k)) x
      have HR := hid (show runL desk0 (ls.take (k + 1)) = runL desk0 (ls.take k) ++ (lineD (deskL desk0 (ls.take k)) x).2 ++ [10] by rw [take_snoc _ _ _ hx, runL_snoc, List.append_assoc])
      have HDs := hid (show deskL desk0 (ls.take (k + 1)) = (lineD (deskL desk0 (ls.take k)) x).1 by rw [take_snoc _ _ _ hx, deskL_snoc])
      have hle := gr_le HG.out
      have hblt := blk_lt (bld_block HB.out).choose_spec.choose_spec
      generalize (lineD (deskL desk0 (ls.take k)) x).2 = y at *
      generalize (lineD (deskL desk0 (ls.take k)) x).1 = D at *
      generalize runL desk0 (ls.take k) = o at *
      have hbl : (Lib.byteCells o).length = o.length := Lib.byteCells_length o
      have hyl : ByteArray.size ⟨y.toArray⟩ = y.length := by show y.toArray.size = _; rw [List.size_toArray]
      clear hx
      go_wp2_with fail
      refine HL.out.mono ?_
      rintro e w1 ⟨rfl, hd1', hg⟩
      have HD1 := hid hd1'
      have HB1 := hid (bld_keep HB.out hg (by omega))
      have hs1 := gr_le hg
      have HG1 := hid (gr_own HG.out hg (fun g e => by cases e; exact Nat.le_refl _))
      clear hd1' hg
      go_wp2_with fail
      refine (Tryz.writeStringK (w.heap.size + 1) (w.heap.size + 1) (Lib.byteCells o) ⟨y.toArray⟩ w1 HB1.out (by omega) (by omega)).mono ?_
      rintro e w2 ⟨rfl, hb2, hbl2, hok2⟩
      have HB2 := hid hb2
      have HD2 := hid (HD1.out.others hok2 (by decide) (by omega) (bld_block HB1.out))
      have HG2 := hid (gr_thenBelow HG1.out hbl2 (by omega))
      have hs2 := hbl2.size
      clear hb2 hbl2 hok2
      go_wp2_with fail
      refine (Tryz.writeByteK (w.heap.size + 1) (w.heap.size + 1) _ 10 w2 (.inr HB2.out) (by rw [List.length_append, hbl, Lib.strCells_length, hyl]; omega) (by omega)).mono ?_
      rintro e w3 ⟨rfl, hb3, hbl3, hok3⟩
      have HB3 := hid hb3
      have HD3 := hid (HD2.out.others hok3 (by decide) (by omega) (bld_block (.inr HB2.out)))
      have HG3 := hid (gr_thenBelow HG2.out hbl3 (by omega))
      clear hb3 hbl3 hok3
      go_wp2_with fail
      go_roundw
      case rel =>
        refine ⟨k + 1, by omega, by go_num, by rw [HDs.out]; exact HD3, hid (.inr ?_), HG3⟩
        rw [HR.out, Lib.byteCells_append, Lib.byteCells_append]
        exact HB3.out
      case measure => simp [intOf]; omega
    · have hd1 : decide (k < m) = false := by simpa using hlt
      obtain rfl : k = m := by omega
      have HT := hid (show runL desk0 (ls.take k) = sessT ls from sess_done (by have := HM.out; omega))
      have hblt := blk_lt (bld_block HB.out).choose_spec.choose_spec
      have HS := hid (Tryz.builderStringK _ _ _ wr HB.out (by omega))
      generalize runL desk0 (ls.take k) = o at *
      clear hlt
      go_wp2_with fail
      refine HS.out.mono ?_
      rintro e w1 ⟨rfl, _, hbl, _⟩
      have HG1 := hid (gr_thenBelow HG.out hbl (by omega))
      clear hbl
      go_wp2_with fail
      go_ret
      exact ⟨ret_text HT.out, HG1.out⟩
end Go.Proofs.YtielicmjdhmcjaaGreatDoor

/- Packed: Split. -/
import Derived.Test.YtielicmjdhmcjaaGreatDoorRows
import Derived.Test.YtielicmjdhmcjaaGreatDoorPk26
import Derived.Deep.AppendLies
import Derived.Laws.Strings3
/- splitWords of the reference: a text cut at every space. -/
namespace Go.Proofs.YtielicmjdhmcjaaGreatDoor
open Go.RowKit

def strL : Lay (List UInt8) := ⟨1, fun x => [.string ⟨(x).toArray⟩], fun _ => rfl⟩
theorem infoStr : (Tryz.prog.info? 9).map (fun i => (i.zero, i.size, i.bytes)) = some (some (.string ⟨#[]⟩), 1, 16) := by kernel_rfl
theorem infoPtsS {T : TypeId} {z : Value} {s y : Nat} (h : (Tryz.prog.info? T).map (fun i => (i.zero, i.size, i.bytes)) = some (some z, s, y)) : ∃ i, Tryz.prog.info? T = some i ∧ i.zero = some z ∧ i.size = s ∧ i.bytes = y := by
  cases hi : Tryz.prog.info? T with
  | none => rw [hi] at h; cases h
  | some i => rw [hi] at h; simp at h; exact ⟨i, rfl, h.1, h.2.1, h.2.2⟩
theorem str_mid (w : World) (t : TypeId) (l : List UInt8) (a k : Nat) (h1 : a ≤ k) (h : k ≤ l.length) (ht : Tryz.prog.underlying t = some .string) : (Instr.slice t (.string ⟨(l).toArray⟩) (some (.int .i64 (a : Int))) (some (.int .i64 (k : Int))) none).run Tryz.prog w = .ok (.string ⟨(part l a (k - a)).toArray⟩) w := by
  rw [run_slice_string w t _ _ _ _ _ ht (by omega) (by omega) (by show (k : Int) ≤ ((l.toArray.size : Nat) : Int); rw [List.size_toArray]; omega), ByteArray.extract_mk]
  simp only [Int.toNat_natCast]
  rfl
theorem str_rest (w : World) (t : TypeId) (l : List UInt8) (k : Nat) (h : k ≤ l.length) (ht : Tryz.prog.underlying t = some .string) : (Instr.slice t (.string ⟨(l).toArray⟩) (some (.int .i64 (k : Int))) none none).run Tryz.prog w = .ok (.string ⟨(part l k (l.length - k)).toArray⟩) w := by
  rw [run_slice_string_from_if w t _ _ _ ht, if_pos ⟨by omega, by show (k : Int) ≤ ((l.toArray.size : Nat) : Int); rw [List.size_toArray]; omega⟩, ByteArray.extract_mk]
  have : ByteArray.size ⟨l.toArray⟩ = l.length := by show l.toArray.size = _; rw [List.size_toArray]
  simp only [Int.toNat_natCast]
  rw [this]; rfl

set_option maxRecDepth 100000 in
set_option maxHeartbeats 1000000 in
theorem splitWords_any (l : List UInt8) (w : World) (hl : l.length ≤ 2000000) :
    Calls Tryz.prog 44 #[.string ⟨(l).toArray⟩] w fun e w' => ∃ g n cap, e = .returned (.slice (some ⟨g, 0, none⟩) n cap) ∧ w'.ownsRow w.heap.size 9 1 (.slice (some ⟨g, 0, none⟩) n cap) n ((spl [] l).flatMap strL.cells) ∧ (spl [] l).length = n ∧ n ≤ 2000001 ∧ w.grownBy w' none := by
  obtain ⟨i0, hi, hz0, hz1, hz2⟩ := infoPtsS infoStr
  have hA : (w.alloc (.cells #[] 9)).ownsRow w.heap.size 9 1 (.slice (some ⟨w.heap.size, 0, none⟩) 0 0) 0 (([] : List (List UInt8)).flatMap strL.cells) := World.ownsRow_made w #[] 0 (Nat.le_refl _) (by decide) rfl
  have HA := hid hA
  have HG := hid (show w.grownBy (w.alloc (.cells #[] 9)) none from gr_alloc (gr0 _) _)
  clear hA
  go_enter Tryz.func44, Tryz.ntmps44
  go_wp2_with fail
  go_loopw [3, 4, 5] (fun o f i wr => ∃ (k a j g gc : Nat) (ws : List (List UInt8)), k ≤ l.length ∧ a ≤ k ∧ i = .int .i64 k ∧ f = .int .i64 a ∧ o = .slice (some ⟨g, 0, none⟩) j gc ∧ j ≤ k ∧ Hid (ws.length = j) ∧ wr.ownsRow w.heap.size 9 1 (.slice (some ⟨g, 0, none⟩) j gc) j (ws.flatMap strL.cells) ∧ Hid (spl [] l = ws ++ spl (part l a (k - a)) (l.drop k)) ∧ w.grownBy wr none) (fun _ _ i _ => l.length - (intOf i).toNat)
  case atStart => exact ⟨0, 0, 0, w.heap.size, 0, [], by omega, by omega, rfl, rfl, rfl, by omega, hid rfl, HA.out, hid (by rw [Nat.sub_self, part_zero, List.drop_zero]; rfl), HG.out⟩
  case round =>
    clear HA HG
    obtain ⟨k, a, j, g, gc, ws, hk, hak, rfl, rfl, rfl, hjk, Hl, hrow, HE, hgr⟩ := hrel
    have Hrow := hid hrow
    have Hgr := hid hgr
    have hgl := (hrow.lt g rfl).2
    have hge := (hrow.lt g rfl).1
    clear hrow hgr
    by_cases hlt : k < l.length
    · have hd : decide (k < l.length) = true := by simpa using hlt
      have hc := List.getElem?_eq_getElem hlt
      generalize l[k] = c at hc
      have hix := fun w => str_at w 9 l k c hc Tryz.underlying9
      by_cases h32 : c = 32
      · subst h32
        have hmid := fun w => str_mid w 9 l a k hak (by omega) Tryz.underlying9
        have HS := hid (spl_at_space hak hc)
        have hcz : (((32 : UInt8).toNat : Int) == 32) = true := by decide
        have hcz2 : ((32 : UInt8).toNat : Int) = 32 := by decide
        rw [hcz2] at hix
        clear hc hcz hcz2
        generalize part l a (k - a) = P at *
        go_wp2_with (at_builtin; go_must (refine wpList_append_lies _ rfl _ _ _ rfl w.heap.size 9 i0 _ 1 16 Tryz.underlying23 hi hz0 hz1 hz2 rfl (by decide) _ _ _ rfl (Hrow.out.alloc _) ⟨wr.heap.size, 0, none⟩ 1 1 [.string ⟨(P).toArray⟩] rfl rfl (cells_new wr _ _ _ rfl) ?d2 (by decide) ?d3 ?d4 ?d5 _ rfl ?_))
        case d2 => simp [Value.oneCell']
        case d3 => unfold maxLen; omega
        case d4 => omega
        case d5 => have := Hgr.out.size; simp; omega
        intro g' gc' w9 hown9 hgo9 hat9 hlt9
        have Hf9 := hid hown9
        have Hg9 := hid (gr_own (gr_alloc Hgr.out _) hgo9 (fun x e => by simp [Value.ownBlock] at e; omega))
        clear hown9 hgo9 hat9 hlt9 hix hmid
        go_wp2_with fail
        go_roundw
        case rel =>
          refine ⟨k + 1, k + 1, j + 1, g', gc', ws ++ [P], by omega, by omega, by go_num, by go_num, rfl, by omega, hid (by rw [List.length_append, Hl.out]; rfl), ?_, hid (by rw [Nat.sub_self, part_zero, HE.out, HS.out]; simp), Hg9.out⟩
          rw [List.flatMap_append]
          exact Hf9.out
        case measure => simp [intOf]; omega
      · have HS := hid (spl_at_other hak hc h32)
        obtain ⟨z, hz⟩ : ∃ z : Int, (c.toNat : Int) = z := ⟨_, rfl⟩
        have hzb : (z == 32) = false := by
          have : ¬ z = 32 := fun e => h32 (UInt8.toNat_inj.1 (show c.toNat = (32 : UInt8).toNat by have : (32 : UInt8).toNat = 32 := rfl; omega))
          simpa using this
        rw [hz] at hix
        clear hc hz h32
        go_wp2_with fail
        go_roundw
        case rel => exact ⟨k + 1, a, j, g, gc, ws, by omega, by omega, by go_num, rfl, rfl, by omega, Hl, Hrow.out, hid (by rw [HE.out, HS.out]), Hgr.out⟩
        case measure => simp [intOf]; omega
    · have hkl : k = l.length := by omega
      have hd : decide (k < l.length) = false := by simp; omega
      subst hkl
      have hrest := fun w => str_rest w 9 l a hak Tryz.underlying9
      rw [spl_at_end] at HE
      generalize part l a (l.length - a) = P at *
      go_wp2_with (at_builtin; go_must (refine wpList_append_lies _ rfl _ _ _ rfl w.heap.size 9 i0 _ 1 16 Tryz.underlying23 hi hz0 hz1 hz2 rfl (by decide) _ _ _ rfl (Hrow.out.alloc _) ⟨wr.heap.size, 0, none⟩ 1 1 [.string ⟨(P).toArray⟩] rfl rfl (cells_new wr _ _ _ rfl) ?q2 (by decide) ?q3 ?q4 ?q5 _ rfl ?_))
      case q2 => simp [Value.oneCell']
      case q3 => unfold maxLen; omega
      case q4 => omega
      case q5 => have := Hgr.out.size; simp; omega
      intro g' gc' w9 hown9 hgo9 hat9 hlt9
      have Hf9 := hid hown9
      have Hg9 := hid (gr_own (gr_alloc Hgr.out _) hgo9 (fun x e => by simp [Value.ownBlock] at e; omega))
      clear hown9 hgo9 hat9 hlt9 hrest
      go_wp2_with fail
      go_ret
      refine ⟨g', j + 1, gc', rfl, ?_, by rw [HE.out, List.length_append, Hl.out]; rfl, by omega, Hg9.out⟩
      rw [HE.out, List.flatMap_append]
      exact Hf9.out

end Go.Proofs.YtielicmjdhmcjaaGreatDoor

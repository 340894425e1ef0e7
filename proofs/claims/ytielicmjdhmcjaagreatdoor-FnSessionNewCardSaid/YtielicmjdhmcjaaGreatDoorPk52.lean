/- Packed: DrawSess. -/
import Derived.Test.YtielicmjdhmcjaaGreatDoorRows
import Derived.Test.YtielicmjdhmcjaaGreatDoorPk47
import Derived.Deep.Onto
/- The reader's lines of a session. -/
namespace Go.Proofs.YtielicmjdhmcjaaGreatDoor
open Go.RowKit

def lines6 : List (List UInt8) := [[98, 111, 110, 100, 32, 52, 46, 50, 53, 32, 50, 48, 50, 48, 45, 48, 49, 45, 49, 53, 32, 50, 48, 51, 48, 45, 48, 49, 45, 49, 53, 32, 54], [98, 111, 110, 100, 32, 48, 46, 48, 48, 32, 50, 48, 50, 49, 45, 48, 51, 45, 51, 49, 32, 50, 48, 50, 53, 45, 48, 56, 45, 51, 49, 32, 49, 50], [98, 111, 110, 100, 32, 53, 46, 48, 48, 32, 50, 48, 50, 48, 45, 48, 50, 45, 50, 57, 32, 50, 48, 50, 52, 45, 48, 50, 45, 50, 57, 32, 51], [98, 111, 110, 100, 32, 52, 46, 50, 53, 32, 50, 48, 50, 48, 45, 48, 49, 45, 49, 53, 32, 50, 48, 51, 48, 45, 48, 49, 45, 49, 53, 32, 53], [116, 111, 116, 97, 108], [100, 97, 121, 32, 50, 48, 50, 50, 45, 48, 54, 45, 48, 49]]
def lines19 : List (List UInt8) := [[100, 97, 121, 32, 50, 48, 50, 50, 45, 48, 54, 45, 48, 49], [100, 97, 121, 32, 50, 48, 50, 51, 45, 48, 49, 45, 49, 53], [100, 97, 121, 32, 50, 48, 50, 52, 45, 48, 50, 45, 50, 57], [100, 97, 121, 32, 50, 48, 50, 51, 45, 48, 50, 45, 50, 57], [97, 99, 99, 114, 117, 101, 100], [116, 111, 116, 97, 108], [112, 111, 115, 105, 116, 105, 111, 110], [103, 97, 105, 110], [98, 117, 121, 32, 49, 48, 32, 57, 57, 53, 48], [115, 101, 108, 108, 32, 52, 32, 49, 48, 48, 50, 48], [98, 117, 121, 32, 48, 32, 53], [98, 117, 121, 32, 120, 32, 57, 57, 53, 48], [112, 114, 105, 99, 101, 32, 50, 48, 48, 48, 48], [112, 114, 105, 99, 101, 32, 48], [112, 114, 105, 99, 101, 32, 120], [], [104, 101, 108, 112], [115, 101, 108, 108, 32, 50, 48, 32, 57, 57, 48, 48], [98, 111, 110, 100, 32, 51, 46, 49, 48, 32, 50, 48, 50, 50, 45, 48, 49, 45, 51, 49, 32, 50, 48, 50, 54, 45, 48, 55, 45, 51, 49, 32, 54]]
theorem lines19_le : ∀ x ∈ lines19, x.length ≤ 998 := by decide
theorem lines6_le : ∀ x ∈ lines6, x.length ≤ 998 := by decide
set_option maxRecDepth 100000 in
set_option maxHeartbeats 4000000 in
theorem DrawRunSession_any (a : Option Addr) (n cap : Nat) (xs : List Int) (w : World) (hs : Sl u8L w a n xs) (hcap : n ≤ cap) (hx : ∀ x ∈ xs, 0 ≤ x ∧ x ≤ 255) :
    Calls Tryz.prog 7 #[.slice a n cap] w fun e w' => ∃ (g m c : Nat) (ls : List (List UInt8)), e = .returned (.slice (some ⟨g, 0, none⟩) m c) ∧ Ow strL w' w.heap.size (some ⟨g, 0, none⟩) m ls ∧ m ≤ c ∧ 1 ≤ m ∧ m ≤ 10 ∧ (∀ x ∈ ls, x.length ≤ 1000) ∧ w.grownBy w' none := by
  go_enter Tryz.func7, Tryz.ntmps7
  go_wp2_with fail
  refine (newReader_any a n cap xs _ hs hcap hx).mono ?_
  rintro e w1 ⟨rb, rfl, hrb, h1, hg⟩
  have Hg1 := hid hg
  clear hg hs hx
  have hsz := h1.lt
  go_wp2_with fail
  refine (of_lit rb _ lines6 _ _ 6 rfl rfl (by decide) (by decide) w1 _ rfl h1 (by omega)).mono ?_
  rintro e w2 ⟨x, rfl, hx, h2, hg⟩
  have hx1 := lines6_le x hx
  have Hg2 := hid (gr_own Hg1.out hg (fun k e => by cases e; omega))
  have hs2 := gr_le hg
  clear hg h1
  go_wp2_with fail
  refine (pick_any rb _ 9 _ (h2.keep0 (gr_alloc (gr_refl _ _) _)) (by omega)).mono ?_
  rintro e w3 ⟨t, rfl, ht0, ht9, h3, hg⟩
  have Hg3 := hid (gr_own (gr_alloc Hg2.out _) hg (fun k e => by cases e; omega))
  have hO : w3.ownsRow w1.heap.size 9 1 (.slice (some ⟨w2.heap.size, 0, none⟩) 1 1) 1 ([x].flatMap strL.cells) := own_pick (World.ownsRow_lit (base := w1.heap.size) (e := 9) (size := 1) w2 #[.string ⟨(x).toArray⟩] 1 hs2 (by decide) rfl) (by omega) hg
  have HO := hid hO
  clear hg h2 hO
  go_wp2_with fail
  go_loopw [4, 5] (fun o i wr => ∃ (j g gc m : Nat) (q : Int) (ls : List (List UInt8)), i = .int .i64 q ∧ 0 ≤ q ∧ q ≤ 9 ∧ (j : Int) + q ≤ 10 ∧ 1 ≤ j ∧ o = .slice (some ⟨g, 0, none⟩) j gc ∧ Hid (ls.length = j) ∧ Hid (wr.ownsRow w1.heap.size 9 1 (.slice (some ⟨g, 0, none⟩) j gc) j (ls.flatMap strL.cells)) ∧ Hid (∀ y ∈ ls, y.length ≤ 998) ∧ Hid (Rdr 55 wr rb m) ∧ m + q.toNat * 2 ≤ 100 ∧ Hid (w.grownBy wr none)) (fun _ i _ => (intOf i).toNat)
  case atStart => exact ⟨1, w2.heap.size, 1, _, t, [x], rfl, ht0, by omega, by omega, Nat.le_refl _, rfl, hid rfl, HO, hid (by simpa using hx1), hid h3, by omega, Hg3⟩
  case round =>
    obtain ⟨j, g, gc, m, q, ls, rfl, q0, q9, hjq, hj1, rfl, Hl, HO, Ha, HR, hm, HG⟩ := hrel
    clear Hg3 hx1
    obtain ⟨i0, hi, hz0, hz1, hz2⟩ := infoPtsS infoStr
    by_cases hq : 0 < q
    · have hd : decide (0 < q) = true := by simpa using hq
      have u1 : IntKind.i64.wrap (q - 1) = q - 1 := IntWalk.i64_in _ (by omega)
      go_wp2_with fail
      refine (of_lit rb _ lines19 _ _ 19 rfl rfl (by decide) (by decide) wr _ rfl HR.out (by omega)).mono ?_
      rintro e w4 ⟨y, rfl, hy, h4, hg⟩
      have Hy := hid (lines19_le y hy)
      have HR4 := hid h4
      have HO4 := hid (own_pick HO.out (by omega) hg)
      have HG4 := hid (gr_own HG.out hg (fun k e => by cases e; omega))
      have hs4 := gr_le hg
      have hgl := (HO.out.lt g rfl)
      clear hy h4 hg
      go_wp2_with (at_builtin; go_must (refine wpList_append_lies _ rfl _ _ _ rfl w1.heap.size 9 i0 _ 1 16 Tryz.underlying23 hi hz0 hz1 hz2 rfl (by decide) _ _ _ rfl (HO4.out.alloc _) ⟨w4.heap.size, 0, none⟩ 1 1 [.string ⟨(y).toArray⟩] rfl rfl (cells_new w4 _ _ _ rfl) ?d2 (by decide) ?d3 ?d4 ?d5 _ rfl ?_))
      case d2 => simp [Value.oneCell']
      case d3 => unfold maxLen; omega
      case d4 => omega
      case d5 => simp; omega
      intro g' gc' w9 hown9 hgo9 hat9 hlt9
      have Hf9 := hid hown9
      have Hg9 := hid (gr_own (gr_alloc HG4.out _) hgo9 (fun x e => by simp [Value.ownBlock] at e; have := gr_le Hg1.out; omega))
      have HR9 := hid ((HR4.out.keep0 (gr_alloc (gr_refl _ _) (Obj.cells #[.string ⟨(y).toArray⟩] 9))).append (HO4.out.alloc _) (by omega) hgo9)
      clear hown9 hgo9 hat9 hlt9
      go_wp2_with fail
      go_roundw
      case rel =>
        refine ⟨j + 1, g', gc', m + 1, q - 1, ls ++ [y], by go_num, by omega, by omega, by omega, by omega, rfl, hid (by rw [List.length_append, Hl.out]; rfl), hid ?_, hid ?_, HR9, by omega, Hg9⟩
        · rw [List.flatMap_append]; exact Hf9.out
        · intro z hz
          rcases List.mem_append.1 hz with hz | hz
          · exact Ha.out z hz
          · rw [List.mem_singleton.1 hz]; exact Hy.out
      case measure => simp [intOf]; omega
    · obtain rfl : q = 0 := by omega
      go_wp2_with fail
      refine (pick_any rb _ 6 _ HR.out (by omega)).mono ?_
      rintro e w4 ⟨p, rfl, hp0, hp6, h4, hg⟩
      have HO4 := hid (own_pick HO.out (by omega) hg)
      have HG4 := hid (gr_own HG.out hg (fun k e => by cases e; omega))
      have HR4 := hid h4
      clear h4 hg
      have hbase := gr_le Hg1.out
      have hcapj := own_form HO.out
      by_cases hp : p = 0
      · subst hp
        go_wp2_with fail
        refine (pick_any rb _ j _ HR4.out (by omega)).mono ?_
        rintro e w5 ⟨k, rfl, hk0, hkj, h5, hg⟩
        obtain ⟨kn, rfl⟩ := Int.eq_ofNat_of_zero_le hk0
        have HO5 := hid (own_pick HO4.out (by omega) hg)
        have HG5 := hid (gr_own HG4.out hg (fun k e => by cases e; omega))
        have HR5 := hid h5
        clear h5 hg
        have hlt : kn < j := by omega
        have HW5 := hid (Ow.of_own (L := strL) HO5.out Hl.out (by unfold maxLen; omega))
        obtain ⟨z, hz, hzc⟩ : ∃ z, ls[kn]? = some z ∧ w5.cell? ⟨g, kn, none⟩ = some (.string ⟨(z).toArray⟩) := by
          obtain ⟨b, off, z, e, hz, hc⟩ := text_at HW5.out.sl kn hlt
          cases e
          exact ⟨z, hz, by simpa using hc⟩
        have hzl := Ha.out z (List.mem_of_getElem? hz)
        have Hz := hid hz
        have HMu := hid (mutate_any rb _ z w5 HR5.out (by omega) (by omega))
        clear hz hp0 hp6 hk0 hkj
        go_wp2_with fail
        refine HMu.out.mono ?_
        rintro e w6 ⟨y, rfl, hyl, h6, hg⟩
        have HO6 := hid (own_pick HO5.out (by omega) hg)
        have HG6 := hid (gr_own HG5.out hg (fun k e => by cases e; omega))
        have HW6 := hid (Ow.of_own (L := strL) (World.ownsRow.mono HO6.out hbase) Hl.out (by unfold maxLen; omega))
        have hz6 := hg.cell hzc (by have := (HO6.out.lt g rfl).1; simp; omega)
        have f6 : w6.frozen? ⟨g, kn, none⟩ = false := World.ownsRow.frozenAt HO6.out kn
        have hgge := (HO6.out.lt g rfl).1
        clear h6 hg
        go_wp2_with fail
        go_ret
        obtain ⟨_, _, e9, hc9⟩ := own_form HO6.out
        cases e9
        refine ⟨g, j, gc, ls.set kn y, rfl, HW6.out.set kn 0 z y (.string ⟨(y).toArray⟩) Hz.out (by simp [strL]) rfl kn (by simp [strL]), hc9, hj1, by omega, fun v hv => ?_, gr_setCell HG6.out (.inr (by show w.heap.size ≤ g; omega)) _⟩
        rcases List.mem_or_eq_of_mem_set hv with hv | rfl
        · have := Ha.out v hv; omega
        · omega
      · have hpb : (p == 0) = false := by simpa using hp
        go_wp2_with fail
        go_ret
        obtain ⟨_, _, e9, hc9⟩ := own_form HO4.out
        cases e9
        exact ⟨g, j, gc, ls, rfl, Ow.of_own (L := strL) (World.ownsRow.mono HO4.out hbase) Hl.out (by unfold maxLen; omega), hc9, hj1, by omega, fun z hz => by have := Ha.out z hz; omega, HG4.out⟩
end Go.Proofs.YtielicmjdhmcjaaGreatDoor

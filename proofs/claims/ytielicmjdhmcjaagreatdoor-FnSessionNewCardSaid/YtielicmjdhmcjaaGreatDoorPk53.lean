/- Packed: SessFacts. -/
import Derived.Test.YtielicmjdhmcjaaGreatDoorRows
import Derived.Test.YtielicmjdhmcjaaGreatDoorPk24
import Derived.Test.YtielicmjdhmcjaaGreatDoorPk36
/- Plain facts of the sessions' laws: what lines behind a session answer. No program in sight. -/
namespace Go.Proofs.YtielicmjdhmcjaaGreatDoor
open Go.RowKit
open Go.Lib (decDigits nDigits decDigits_one decDigits_two decDigits_length nDigits_unique)

def newW : List UInt8 := [98, 111, 110, 100, 32, 53, 46, 48, 48, 32, 50, 48, 50, 48, 45, 48, 49, 45, 48, 49, 32, 50, 48, 50, 50, 45, 48, 49, 45, 48, 49, 32, 49, 50]
def newB : Bond := ⟨10957, 11688, 12, 500⟩
theorem newB_ok : bondB newB = true := by decide +kernel
theorem newB_text : bondT newB = newW.drop 5 := by decide +kernel
theorem newB_tot : totF newB = 11000 := by decide +kernel
theorem newB_dec : amtT 11000 = [49, 49, 48, 48, 48] := by decide +kernel

theorem sess_app (a b : List (List UInt8)) (h : a.length + b.length ≤ 20) : sessT (a ++ b) = sessT a ++ runL (deskL desk0 a) b := by
  unfold sessT
  rw [List.take_of_length_le (by rw [List.length_append]; omega), List.take_of_length_le (by omega), runL_append]
theorem line_new (s : Desk) : lineD s newW = (⟨newB, s.day, s.trades⟩, okT) := by
  obtain ⟨h1, h2⟩ := pb_of newB_ok newB_text
  unfold lineD
  rw [if_pos (show bondP newW = true by decide)]
  unfold bondD
  rw [if_pos h1, h2]
theorem line_tot (s : Desk) : lineD s totW = (s, amtT (totF s.bond)) := rfl
theorem line_pos (s : Desk) : lineD s posW = (s, sigT (posF s.trades s.day)) := rfl
theorem line_gain (s : Desk) : lineD s gainW = (s, sigT (gainF s.trades)) := rfl
theorem line_acc (s : Desk) : lineD s accW = (s, amtT (accF s.bond s.day)) := rfl
theorem sess_new (ls : List (List UInt8)) (h : ls.length + 2 ≤ 20) : sessT (ls ++ [newW, totW]) = sessT ls ++ [111, 107, 10, 49, 49, 48, 48, 48, 10] := by
  rw [sess_app _ _ (by simpa using h), runL, runL, runL, line_new, line_tot, newB_tot, newB_dec]; rfl
theorem sess_tot (ls : List (List UInt8)) (h : ls.length + 1 ≤ 20) : sessT (ls ++ [totW]) = sessT ls ++ (amtT (totF (deskL desk0 ls).bond) ++ [10]) := by
  rw [sess_app _ _ (by simpa using h), runL, runL, line_tot]
theorem sess_ask (ls : List (List UInt8)) (h : ls.length + 4 ≤ 20) : ∃ q, q ≠ [] ∧ sessT (ls ++ [posW, gainW, accW, totW]) = sessT ls ++ (q ++ (amtT (totF (deskL desk0 ls).bond) ++ [10])) := by
  refine ⟨sigT (posF (deskL desk0 ls).trades (deskL desk0 ls).day) ++ 10 :: (sigT (gainF (deskL desk0 ls).trades) ++ 10 :: (amtT (accF (deskL desk0 ls).bond (deskL desk0 ls).day) ++ [10])), by simp, ?_⟩
  rw [sess_app _ _ (by simpa using h), runL, runL, runL, runL, runL, line_pos, line_gain, line_acc, line_tot]
  simp
theorem sess_le (ls : List (List UInt8)) : (sessT ls).length ≤ 440 := by
  unfold sessT
  have := runL_le (ls.take 20) desk0
  rw [List.length_take] at this; omega
theorem str_cells {w : World} {ad : Addr} {n : Nat} {xs : List (List UInt8)} (hs : Sl strL w (some ad) n xs) : ∀ (j : Nat) (u : Value), (xs.flatMap strL.cells)[j]? = some u → w.cell? (ad.add j) = some u := by
  intro j u hj
  have hjl := lt_of_at hj
  rw [flat_len, hs.len] at hjl
  have hjl : j < n * 1 := hjl
  obtain ⟨b, off, x, e, hx, _, hc⟩ := hs.at j (by omega)
  cases e
  have hf := flat_at strL xs j x hx 0 (.string ⟨(x).toArray⟩) rfl
  have e1 : j * strL.sz + 0 = j := by show j * 1 + 0 = j; omega
  rw [e1, hj] at hf
  cases hf
  have := hc 0 _ rfl
  rw [e1] at this
  rw [Addr.add_lit]; exact this
theorem str_one (xs : List (List UInt8)) : ∀ u ∈ xs.flatMap strL.cells, u.oneCell' = true := by
  intro u hu
  obtain ⟨x, _, hx⟩ := List.mem_flatMap.1 hu
  simp only [strL, List.mem_cons, List.not_mem_nil, or_false] at hx
  subst hx; rfl
theorem sl_more {w : World} {base e g n c k : Nat} {ls ms : List (List UInt8)} (h : w.ownsRow base e 1 (.slice (some ⟨g, 0, none⟩) (n + k) c) (n + k) (ls.flatMap strL.cells ++ ms.flatMap strL.cells)) (hl : ls.length = n) (hk : ms.length = k) (hn : n + k ≤ 20) :
    Sl strL w (some ⟨g, 0, none⟩) (n + k) (ls ++ ms) ∧ n + k ≤ c := by
  rw [← List.flatMap_append] at h
  obtain ⟨_, _, e9, hc9⟩ := own_form h
  cases e9
  exact ⟨Sl.of_own (L := strL) h (by rw [List.length_append, hl, hk]) (by unfold maxLen; omega), hc9⟩
end Go.Proofs.YtielicmjdhmcjaaGreatDoor

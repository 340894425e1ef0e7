/- Payments, accrued interest and mean lives in plain Lean. No program in sight. -/
import Derived.Test.YtpomlbloeejbjaaDoorRows
import Derived.Test.YtpomlbloeejbjaaDoorBase
import Derived.Test.YtpomlbloeejbjaaDoorSched
import Derived.Test.YtpomlbloeejbjaaDoorFamBond
import Derived.Test.YtpomlbloeejbjaaDoorFamFlow
namespace Go.Proofs.YtpomlbloeejbjaaDoor
open Go.RowKit

def bondB (b : Bond) : Bool := rateB b.rate && schedOk b.start b.stop b.months
def persF (b : Bond) : List Per := schedL b.start b.stop b.months
def coupF (b : Bond) (p : Per) : Int := couponF b.rate b.months p
/-- The payments' face value at the last place. -/
def faceLast : List Flow → List Flow
  | [] => []
  | [f] => [⟨f.day, f.amount + 10000⟩]
  | f :: g :: fs => f :: faceLast (g :: fs)
def coupsF (b : Bond) : List Flow := (persF b).map fun p => ⟨p.till, coupF b p⟩
def flowsL (b : Bond) : List Flow := faceLast (coupsF b)
def flowsF (b : Bond) : List Flow := if bondB b = true then flowsL b else []
def afterF (b : Bond) (day : Int) : List Flow := (flowsF b).filter fun f => decide (day < f.day)
def runB (b : Bond) (day : Int) : Bool := bondB b && (decide (b.start ≤ day) && decide (day < b.stop))
def perAt (b : Bond) (day : Int) : Per := (persF b).getD (atF (persF b) day) ⟨0, 0, false⟩
def accL (b : Bond) (day : Int) : Int := nearF (coupF b (perAt b day) * (day - (perAt b day).frm)) ((perAt b day).till - (perAt b day).frm)
def accF (b : Bond) (day : Int) : Int := if runB b day = true then accL b day else -1

structure OkBond (b : Bond) : Prop where
  span : Span b.start b.stop b.months
  r0 : 0 ≤ b.rate
  r1 : b.rate ≤ 3000

theorem ok_bond {b : Bond} (h : bondB b = true) : OkBond b := by
  unfold bondB rateB at h
  simp only [Bool.and_eq_true, decide_eq_true_eq] at h
  exact ⟨ok_span h.2, h.1.1, h.1.2⟩

theorem OkBond.ok {b : Bond} (h : OkBond b) : schedOk b.start b.stop b.months = true := by
  have := h.span
  unfold schedOk spanB
  simp only [Bool.and_eq_true, Bool.or_eq_true, decide_eq_true_eq]
  exact ⟨⟨⟨⟨⟨this.s0, by have h1 := this.se; have h2 := this.e1; omega⟩, this.se⟩, this.e1⟩, by have h1 := this.mm; omega⟩, this.q2⟩

theorem OkBond.bool {b : Bond} (h : OkBond b) : bondB b = true := by
  unfold bondB rateB
  simp only [Bool.and_eq_true, decide_eq_true_eq]
  exact ⟨⟨h.r0, h.r1⟩, h.ok⟩

theorem run_facts {b : Bond} {day : Int} (h : runB b day = true) : OkBond b ∧ b.start ≤ day ∧ day < b.stop := by
  unfold runB at h
  simp only [Bool.and_eq_true, decide_eq_true_eq] at h
  exact ⟨ok_bond h.1, h.2⟩

theorem OkBond.chain {b : Bond} (h : OkBond b) : Chain (persF b) b.start b.stop := sched_chain h.span

theorem OkBond.whole_bd {b : Bond} (h : OkBond b) : 0 ≤ wholeC b.rate b.months ∧ wholeC b.rate b.months ≤ 3000 := wholeC_bd _ _ h.r0 h.r1 h.span.mpos.1 h.span.mpos.2

/-- Going back once more from a day that one has gone back to comes no later. -/
theorem addM_twice (n a b : Int) (h1 : 0 ≤ n) (h2 : n ≤ 36524) (h : 0 ≤ addM n a) (h3 : 0 ≤ addM (addM n a) b) : addM (addM n a) b ≤ addM n (a + b) := by
  have hk := addM_ge n a h
  have hd := dF_pos n h1 h2
  have e1 : addM n a = atMonth (miF n + a) (dF n) := by unfold addM; rw [if_pos hk]
  have hv := atMonth_valid _ (dF n) hk hd.1
  obtain ⟨hy, hm, hdd⟩ := date_num _ _ _ hv
  have hmi : miF (addM n a) = miF n + a := by
    unfold okMonths at hk; simp only [Bool.and_eq_true, decide_eq_true_eq] at hk
    rw [e1]
    generalize miF n + a = K at *
    have e : miF (atMonth K (dF n)) = 12 * (yF (atMonth K (dF n)) - 1990) + mF (atMonth K (dF n)) - 1 := rfl
    rw [e]; unfold atMonth; rw [hy, hm]; omega
  have hdle : dF (addM n a) ≤ dF n := by rw [e1]; unfold atMonth; rw [hdd]; omega
  have hk2 := addM_ge _ b h3
  have e2 : addM (addM n a) b = atMonth (miF (addM n a) + b) (dF (addM n a)) := by rw [addM, if_pos hk2]
  rw [hmi, show miF n + a + b = miF n + (a + b) by omega] at hk2 e2
  have e3 : addM n (a + b) = atMonth (miF n + (a + b)) (dF n) := by rw [addM, if_pos hk2]
  rw [e2, e3]
  unfold atMonth numF
  omega

/-- A period's bounds, its begin and its coupon. -/
structure OkPer (b : Bond) (p : Per) : Prop where
  f0 : 0 ≤ p.frm
  ft : p.frm < p.till
  t1 : p.till ≤ 36524
  bf : p.whole = false → beginC b.months p ≤ p.frm
  b0 : 0 ≤ beginC b.months p
  bt : beginC b.months p < p.till

theorem okPer_of {b : Bond} (h : OkBond b) (k : Nat) (hk : k < cnt b.start b.stop b.months) : OkPer b (perOf b.start b.stop b.months k) := by
  obtain ⟨a1, a2, a3, a4, a5, a6⟩ := per_facts h.span k hk
  have hs := h.span
  have s0 := hs.s0; have se := hs.se; have e1 := hs.e1; have mp := hs.mpos
  generalize hp : perOf b.start b.stop b.months k = p at *
  have hback := addM_back p.till b.months (by omega) (by omega) mp.1
  refine ⟨by omega, a2, by omega, fun hw => ?_, ?_, ?_⟩
  · unfold beginC
    split
    · omega
    · rename_i hn
      have h5 := a5 hw
      have h6 : perOf b.start b.stop b.months k = p := hp
      have h7 : p.whole = decide (b.start ≤ backA b.stop b.months (k + 1)) := by rw [← hp]; rfl
      rw [hw] at h7
      have h8 : ¬ b.start ≤ backA b.stop b.months (k + 1) := of_decide_eq_false h7.symm
      have h9 := addM_twice b.stop (-(k * b.months)) (-b.months) (by omega) e1 (by unfold backA at a6; omega) (by unfold backA at a6; rw [← a6]; omega)
      rw [show -((k : Int) * b.months) + -b.months = -(((k + 1 : Nat) : Int) * b.months) by push_cast; rw [Int.add_mul]; omega] at h9
      unfold backA at a6 h8
      rw [← a6] at h9
      omega
  · unfold beginC; split <;> omega
  · unfold beginC; split <;> omega

theorem pers_okPer {b : Bond} (h : OkBond b) (p : Per) (hp : p ∈ persF b) : OkPer b p := by
  unfold persF schedL at hp
  simp only [List.mem_reverse, List.mem_map, List.mem_range] at hp
  obtain ⟨k, hk, rfl⟩ := hp
  exact okPer_of h k hk

theorem coup_bd {b : Bond} (h : OkBond b) (p : Per) (hp : OkPer b p) : 0 ≤ coupF b p ∧ coupF b p ≤ 3000 := by
  have hw := h.whole_bd
  unfold coupF couponF
  split
  · exact hw
  · rename_i hf
    have := near_part (wholeC b.rate b.months) (p.till - p.frm) (p.till - beginC b.months p) hw.1 (by have := hp.ft; omega) (by have := hp.bf (by simpa using hf); omega) (by have := hp.bt; omega)
    omega

theorem perAt_spec {b : Bond} (h : OkBond b) (day : Int) (h1 : b.start ≤ day) (h2 : day < b.stop) :
    (persF b)[atF (persF b) day]? = some (perAt b day) ∧ (perAt b day).frm ≤ day ∧ day < (perAt b day).till ∧ perAt b day ∈ persF b ∧ atF (persF b) day < (persF b).length := by
  obtain ⟨p, hp, a, c, _, d⟩ := h.chain.at_spec day h1 h2
  have e : perAt b day = p := by unfold perAt; rw [List.getD_eq_getElem?_getD, hp]; rfl
  rw [e]
  exact ⟨hp, a, c, List.mem_of_getElem? hp, d⟩

theorem acc_bd {b : Bond} (h : OkBond b) (day : Int) (h1 : b.start ≤ day) (h2 : day < b.stop) : 0 ≤ accL b day ∧ accL b day ≤ coupF b (perAt b day) := by
  obtain ⟨_, a, c, hm, _⟩ := perAt_spec h day h1 h2
  have hc := coup_bd h _ (pers_okPer h _ hm)
  unfold accL
  exact near_part _ _ _ hc.1 (by omega) (by omega) (by omega)

theorem faceLast_len (L : List Flow) : (faceLast L).length = L.length := by
  induction L with
  | nil => rfl
  | cons f L ih =>
    cases L with
    | nil => rfl
    | cons g L => simp only [faceLast, List.length_cons] at ih ⊢; omega

theorem faceLast_at (L : List Flow) (i : Nat) (f : Flow) (h : L[i]? = some f) : (faceLast L)[i]? = some ⟨f.day, f.amount + (if i + 1 = L.length then 10000 else 0)⟩ := by
  induction L generalizing i with
  | nil => simp at h
  | cons g L ih =>
    cases L with
    | nil =>
      cases i with
      | zero => obtain rfl : g = f := by simpa using h
                simp [faceLast]
      | succ i => simp at h
    | cons g2 L =>
      cases i with
      | zero => obtain rfl : g = f := by simpa using h
                simp [faceLast]
      | succ i =>
        have := ih i (by simpa using h)
        simp only [faceLast, List.getElem?_cons_succ, List.length_cons] at this ⊢
        rw [this]
        congr 2
        simp

/-- The last one's amount is raised. -/
theorem faceLast_set (L : List Flow) (f : Flow) (i : Nat) (hi : i + 1 = L.length) (h : L[i]? = some f) : faceLast L = L.set i ⟨f.day, f.amount + 10000⟩ := by
  induction L generalizing i with
  | nil => simp at h
  | cons g L ih =>
    cases L with
    | nil =>
      obtain rfl : i = 0 := by simpa using hi
      obtain rfl : g = f := by simpa using h
      rfl
    | cons g2 L =>
      cases i with
      | zero => simp at hi
      | succ i =>
        have := ih i (by simpa using hi) (by simpa using h)
        simp only [faceLast, List.set_cons_succ]; rw [this]

theorem flows_len (b : Bond) : (flowsL b).length = (persF b).length := by unfold flowsL coupsF; rw [faceLast_len, List.length_map]
theorem flows_at (b : Bond) (i : Nat) (p : Per) (h : (persF b)[i]? = some p) : (flowsL b)[i]? = some ⟨p.till, coupF b p + (if i + 1 = (persF b).length then 10000 else 0)⟩ := by
  have := faceLast_at (coupsF b) i ⟨p.till, coupF b p⟩ (by unfold coupsF; rw [List.getElem?_map, h]; rfl)
  have e : (coupsF b).length = (persF b).length := by unfold coupsF; rw [List.length_map]
  rw [e] at this
  exact this

theorem flows_bd {b : Bond} (h : OkBond b) (f : Flow) (hf : f ∈ flowsL b) : 0 ≤ f.amount ∧ f.amount ≤ 13000 ∧ b.start < f.day ∧ f.day ≤ b.stop := by
  obtain ⟨i, hi, rfl⟩ := List.mem_iff_getElem.1 hf
  rw [flows_len] at hi
  have hp : (persF b)[i]? = some (persF b)[i] := by simp [hi]
  have hfi := flows_at b i _ hp
  rw [List.getElem?_eq_getElem (by rw [flows_len]; exact hi)] at hfi
  rw [Option.some.inj hfi]
  have h1 := h.chain.up i _ hp
  have h2 := coup_bd h _ (pers_okPer h _ (List.getElem_mem hi))
  refine ⟨by simp only; split <;> omega, by simp only; split <;> omega, by simp only; omega, by simp only; omega⟩

/-- Days rise. -/
theorem flows_up {b : Bond} (h : OkBond b) (i j : Nat) (f g : Flow) (hf : (flowsL b)[i]? = some f) (hg : (flowsL b)[j]? = some g) (hij : i < j) : f.day < g.day := by
  have hi := lt_of_at hf
  have hj := lt_of_at hg
  rw [flows_len] at hi hj
  have hp : (persF b)[i]? = some (persF b)[i] := by simp [hi]
  have hq : (persF b)[j]? = some (persF b)[j] := by simp [hj]
  rw [flows_at b i _ hp] at hf
  rw [flows_at b j _ hq] at hg
  obtain rfl := Option.some.inj hf
  obtain rfl := Option.some.inj hg
  have := h.chain.up_till i j _ _ hp hq hij
  have := (h.chain.up j _ hq).2.1
  simp only; omega

/-- In a list whose days rise, those behind a day are the last ones. -/
theorem filter_drop (L : List Flow) (day : Int) (hup : ∀ (i j : Nat) (f g : Flow), L[i]? = some f → L[j]? = some g → i < j → f.day < g.day) :
    L.filter (fun f => decide (day < f.day)) = L.drop (L.findIdx fun f => decide (day < f.day)) := by
  induction L with
  | nil => rfl
  | cons f L ih =>
    have hL : ∀ (i j : Nat) (f g : Flow), L[i]? = some f → L[j]? = some g → i < j → f.day < g.day := fun i j f g h1 h2 h3 => hup (i + 1) (j + 1) f g (by simpa using h1) (by simpa using h2) (by omega)
    by_cases h : day < f.day
    · have e : (f :: L).findIdx (fun f => decide (day < f.day)) = 0 := by simp [List.findIdx_cons, h]
      rw [e, List.drop_zero, List.filter_eq_self]
      intro g hg
      simp only [decide_eq_true_eq]
      rcases List.mem_cons.1 hg with rfl | hg
      · exact h
      · obtain ⟨j, hj⟩ := List.getElem?_of_mem hg
        have := hup 0 (j + 1) f g rfl (by simpa using hj) (by omega)
        omega
    · have e : (f :: L).findIdx (fun f => decide (day < f.day)) = L.findIdx (fun f => decide (day < f.day)) + 1 := by simp [List.findIdx_cons, h]
      rw [e, List.drop_succ_cons, List.filter_cons_of_neg (by simpa using h), ih hL]

theorem findIdx_congr {α β : Type} (xs : List α) (ys : List β) (p : α → Bool) (q : β → Bool) (hl : xs.length = ys.length) (h : ∀ (i : Nat) (x : α) (y : β), xs[i]? = some x → ys[i]? = some y → p x = q y) : xs.findIdx p = ys.findIdx q := by
  induction xs generalizing ys with
  | nil => cases ys with
    | nil => rfl
    | cons y ys => simp at hl
  | cons x xs ih =>
    cases ys with
    | nil => simp at hl
    | cons y ys =>
      have h0 := h 0 x y rfl rfl
      have := ih ys (by simpa using hl) (fun i a c h1 h2 => h (i + 1) a c (by simpa using h1) (by simpa using h2))
      rw [List.findIdx_cons, List.findIdx_cons, h0, this]

theorem after_drop {b : Bond} (h : OkBond b) (day : Int) : (flowsL b).filter (fun f => decide (day < f.day)) = (flowsL b).drop (atF (persF b) day) := by
  rw [filter_drop _ _ (fun i j f g => flows_up h i j f g)]
  congr 1
  unfold atF
  refine findIdx_congr _ _ _ _ (flows_len b) (fun i f p hf hp => ?_)
  rw [flows_at b i p hp] at hf
  obtain rfl := Option.some.inj hf
  rfl

end Go.Proofs.YtpomlbloeejbjaaDoor

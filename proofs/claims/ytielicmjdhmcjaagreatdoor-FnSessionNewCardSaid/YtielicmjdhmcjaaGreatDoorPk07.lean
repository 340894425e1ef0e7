/- Packed: FamBond, FamFlow, Flows, FamTrade, FamLot, FamRange, BondFacts. -/
import Derived.Test.YtielicmjdhmcjaaGreatDoorRows
import Derived.StillTailTactics
import Derived.Test.YtielicmjdhmcjaaGreatDoorPk05
/- Bond: its layout in memory, and what the exact laws do with it: copies, comparison, marks. -/
namespace Go.Proofs.YtielicmjdhmcjaaGreatDoor
open Go.RowKit

structure Bond where
  start : Int
  stop : Int
  months : Int
  rate : Int
  deriving DecidableEq

def bondL : Lay Bond := ⟨4, fun b => [.int .i64 b.start, .int .i64 b.stop, .int .i64 b.months, .int .i64 b.rate], fun _ => rfl⟩

theorem bond_at {w : World} {a : Option Addr} {n : Nat} {xs : List Bond} (h : Sl bondL w a n xs) (k : Nat) (hk : k < n) :
    ∃ b off x, a = some ⟨b, off, none⟩ ∧ xs[k]? = some x ∧ w.cell? ⟨b, off + k * 4, none⟩ = some (.int .i64 x.start) ∧ w.cell? ⟨b, off + k * 4 + 1, none⟩ = some (.int .i64 x.stop) ∧ w.cell? ⟨b, off + k * 4 + 2, none⟩ = some (.int .i64 x.months) ∧ w.cell? ⟨b, off + k * 4 + 3, none⟩ = some (.int .i64 x.rate) := by
  obtain ⟨b, off, x, ha, hx, _, hc⟩ := h.at k hk
  exact ⟨b, off, x, ha, hx, hc 0 _ rfl, hc 1 _ rfl, hc 2 _ rfl, hc 3 _ rfl⟩


end Go.Proofs.YtielicmjdhmcjaaGreatDoor

/- Flow: its layout in memory, and what the exact laws do with it: copies, comparison, marks. -/
namespace Go.Proofs.YtielicmjdhmcjaaGreatDoor
open Go.RowKit

structure Flow where
  day : Int
  amount : Int
  deriving DecidableEq

def flowL : Lay Flow := ⟨2, fun b => [.int .i64 b.day, .int .i64 b.amount], fun _ => rfl⟩

theorem flow_at {w : World} {a : Option Addr} {n : Nat} {xs : List Flow} (h : Sl flowL w a n xs) (k : Nat) (hk : k < n) :
    ∃ b off x, a = some ⟨b, off, none⟩ ∧ xs[k]? = some x ∧ w.cell? ⟨b, off + k * 2, none⟩ = some (.int .i64 x.day) ∧ w.cell? ⟨b, off + k * 2 + 1, none⟩ = some (.int .i64 x.amount) := by
  obtain ⟨b, off, x, ha, hx, _, hc⟩ := h.at k hk
  exact ⟨b, off, x, ha, hx, hc 0 _ rfl, hc 1 _ rfl⟩


end Go.Proofs.YtielicmjdhmcjaaGreatDoor

/- Payments, accrued interest and mean lives in plain Lean. No program in sight. -/
namespace Go.Proofs.YtielicmjdhmcjaaGreatDoor
open Go.RowKit

def bondB (b : Bond) : Bool := rateB b.rate && schedOk b.start b.stop b.months
def persF (b : Bond) : List Per := schedL b.start b.stop b.months
def coupF (b : Bond) (p : Per) : Int := couponF b.rate b.months p
def faceLast : List Flow → List Flow
  | [] => []
  | [f] => [⟨f.day, f.amount + 10000⟩]
  | f :: g :: fs => f :: faceLast (g :: fs)
def coupsF (b : Bond) : List Flow := (persF b).map fun p => ⟨p.till, coupF b p⟩
def flowsL (b : Bond) : List Flow := faceLast (coupsF b)
def flowsF (b : Bond) : List Flow := if bondB b = true then flowsL b else []
def afterF (b : Bond) (day : Int) : List Flow := (flowsF b).filter fun f => decide (day < f.day)
def runB (b : Bond) (day : Int) : Bool := bondB b && (decide (b.start ≤ day) && decide (day < b.stop))
def perAt (b : Bond) (day : Int) : Per := (persF b).getD (atF (persF b) day) ⟨0, 0, false⟩
def accL (b : Bond) (day : Int) : Int := nearF (coupF b (perAt b day) * (day - (perAt b day).frm)) ((perAt b day).till - (perAt b day).frm)
def accF (b : Bond) (day : Int) : Int := if runB b day = true then accL b day else -1

structure OkBond (b : Bond) : Prop where
  span : Span b.start b.stop b.months
  r0 : 0 ≤ b.rate
  r1 : b.rate ≤ 3000

theorem ok_bond {b : Bond} (h : bondB b = true) : OkBond b := by
  unfold bondB rateB at h
  simp only [Bool.and_eq_true, decide_eq_true_eq] at h
  exact ⟨ok_span h.2, h.1.1, h.1.2⟩

theorem OkBond.ok {b : Bond} (h : OkBond b) : schedOk b.start b.stop b.months = true := by
  have := h.span
  unfold schedOk spanB
  simp only [Bool.and_eq_true, Bool.or_eq_true, decide_eq_true_eq]
  exact ⟨⟨⟨⟨⟨this.s0, by have h1 := this.se; have h2 := this.e1; omega⟩, this.se⟩, this.e1⟩, by have h1 := this.mm; omega⟩, this.q2⟩

theorem OkBond.bool {b : Bond} (h : OkBond b) : bondB b = true := by
  unfold bondB rateB
  simp only [Bool.and_eq_true, decide_eq_true_eq]
  exact ⟨⟨h.r0, h.r1⟩, h.ok⟩

theorem run_facts {b : Bond} {day : Int} (h : runB b day = true) : OkBond b ∧ b.start ≤ day ∧ day < b.stop := by
  unfold runB at h
  simp only [Bool.and_eq_true, decide_eq_true_eq] at h
  exact ⟨ok_bond h.1, h.2⟩

theorem OkBond.chain {b : Bond} (h : OkBond b) : Chain (persF b) b.start b.stop := sched_chain h.span

theorem OkBond.whole_bd {b : Bond} (h : OkBond b) : 0 ≤ wholeC b.rate b.months ∧ wholeC b.rate b.months ≤ 3000 := wholeC_bd _ _ h.r0 h.r1 h.span.mpos.1 h.span.mpos.2

theorem addM_twice (n a b : Int) (h1 : 0 ≤ n) (h2 : n ≤ 36524) (h : 0 ≤ addM n a) (h3 : 0 ≤ addM (addM n a) b) : addM (addM n a) b ≤ addM n (a + b) := by
  have hk := addM_ge n a h
  have hd := dF_pos n h1 h2
  have e1 : addM n a = atMonth (miF n + a) (dF n) := by unfold addM; rw [if_pos hk]
  have hv := atMonth_valid _ (dF n) hk hd.1
  obtain ⟨hy, hm, hdd⟩ := date_num _ _ _ hv
  have hmi : miF (addM n a) = miF n + a := by
    unfold okMonths at hk; simp only [Bool.and_eq_true, decide_eq_true_eq] at hk
    rw [e1]
    generalize miF n + a = K at *
    have e : miF (atMonth K (dF n)) = 12 * (yF (atMonth K (dF n)) - 1990) + mF (atMonth K (dF n)) - 1 := rfl
    rw [e]; unfold atMonth; rw [hy, hm]; omega
  have hdle : dF (addM n a) ≤ dF n := by rw [e1]; unfold atMonth; rw [hdd]; omega
  have hk2 := addM_ge _ b h3
  have e2 : addM (addM n a) b = atMonth (miF (addM n a) + b) (dF (addM n a)) := by rw [addM, if_pos hk2]
  rw [hmi, show miF n + a + b = miF n + (a + b) by omega] at hk2 e2
  have e3 : addM n (a + b) = atMonth (miF n + (a + b)) (dF n) := by rw [addM, if_pos hk2]
  rw [e2, e3]
  unfold atMonth numF
  omega

structure OkPer (b : Bond) (p : Per) : Prop where
  f0 : 0 ≤ p.frm
  ft : p.frm < p.till
  t1 : p.till ≤ 36524
  bf : p.whole = false → beginC b.months p ≤ p.frm
  b0 : 0 ≤ beginC b.months p
  bt : beginC b.months p < p.till

theorem okPer_of {b : Bond} (h : OkBond b) (k : Nat) (hk : k < cnt b.start b.stop b.months) : OkPer b (perOf b.start b.stop b.months k) := by
  obtain ⟨a1, a2, a3, a4, a5, a6⟩ := per_facts h.span k hk
  have hs := h.span
  have s0 := hs.s0; have se := hs.se; have e1 := hs.e1; have mp := hs.mpos
  generalize hp : perOf b.start b.stop b.months k = p at *
  have hback := addM_back p.till b.months (by omega) (by omega) mp.1
  refine ⟨by omega, a2, by omega, fun hw => ?_, ?_, ?_⟩
  · unfold beginC
    split
    · omega
    · rename_i hn
      have h5 := a5 hw
      have h6 : perOf b.start b.stop b.months k = p := hp
      have h7 : p.whole = decide (b.start ≤ backA b.stop b.months (k + 1)) := by rw [← hp]; rfl
      rw [hw] at h7
      have h8 : ¬ b.start ≤ backA b.stop b.months (k + 1) := of_decide_eq_false h7.symm
      have h9 := addM_twice b.stop (-(k * b.months)) (-b.months) (by omega) e1 (by unfold backA at a6; omega) (by unfold backA at a6; rw [← a6]; omega)
      rw [show -((k : Int) * b.months) + -b.months = -(((k + 1 : Nat) : Int) * b.months) by push_cast; rw [Int.add_mul]; omega] at h9
      unfold backA at a6 h8
      rw [← a6] at h9
      omega
  · unfold beginC; split <;> omega
  · unfold beginC; split <;> omega

theorem pers_okPer {b : Bond} (h : OkBond b) (p : Per) (hp : p ∈ persF b) : OkPer b p := by
  unfold persF schedL at hp
  simp only [List.mem_reverse, List.mem_map, List.mem_range] at hp
  obtain ⟨k, hk, rfl⟩ := hp
  exact okPer_of h k hk

theorem coup_bd {b : Bond} (h : OkBond b) (p : Per) (hp : OkPer b p) : 0 ≤ coupF b p ∧ coupF b p ≤ 3000 := by
  have hw := h.whole_bd
  unfold coupF couponF
  split
  · exact hw
  · rename_i hf
    have := near_part (wholeC b.rate b.months) (p.till - p.frm) (p.till - beginC b.months p) hw.1 (by have := hp.ft; omega) (by have := hp.bf (by simpa using hf); omega) (by have := hp.bt; omega)
    omega

theorem perAt_spec {b : Bond} (h : OkBond b) (day : Int) (h1 : b.start ≤ day) (h2 : day < b.stop) :
    (persF b)[atF (persF b) day]? = some (perAt b day) ∧ (perAt b day).frm ≤ day ∧ day < (perAt b day).till ∧ perAt b day ∈ persF b ∧ atF (persF b) day < (persF b).length := by
  obtain ⟨p, hp, a, c, _, d⟩ := h.chain.at_spec day h1 h2
  have e : perAt b day = p := by unfold perAt; rw [List.getD_eq_getElem?_getD, hp]; rfl
  rw [e]
  exact ⟨hp, a, c, List.mem_of_getElem? hp, d⟩

theorem acc_bd {b : Bond} (h : OkBond b) (day : Int) (h1 : b.start ≤ day) (h2 : day < b.stop) : 0 ≤ accL b day ∧ accL b day ≤ coupF b (perAt b day) := by
  obtain ⟨_, a, c, hm, _⟩ := perAt_spec h day h1 h2
  have hc := coup_bd h _ (pers_okPer h _ hm)
  unfold accL
  exact near_part _ _ _ hc.1 (by omega) (by omega) (by omega)

theorem faceLast_len (L : List Flow) : (faceLast L).length = L.length := by
  induction L with
  | nil => rfl
  | cons f L ih =>
    cases L with
    | nil => rfl
    | cons g L => simp only [faceLast, List.length_cons] at ih ⊢; omega

theorem faceLast_at (L : List Flow) (i : Nat) (f : Flow) (h : L[i]? = some f) : (faceLast L)[i]? = some ⟨f.day, f.amount + (if i + 1 = L.length then 10000 else 0)⟩ := by
  induction L generalizing i with
  | nil => simp at h
  | cons g L ih =>
    cases L with
    | nil =>
      cases i with
      | zero => obtain rfl : g = f := by simpa using h
                simp [faceLast]
      | succ i => simp at h
    | cons g2 L =>
      cases i with
      | zero => obtain rfl : g = f := by simpa using h
                simp [faceLast]
      | succ i =>
        have := ih i (by simpa using h)
        simp only [faceLast, List.getElem?_cons_succ, List.length_cons] at this ⊢
        rw [this]
        congr 2
        simp

theorem faceLast_set (L : List Flow) (f : Flow) (i : Nat) (hi : i + 1 = L.length) (h : L[i]? = some f) : faceLast L = L.set i ⟨f.day, f.amount + 10000⟩ := by
  induction L generalizing i with
  | nil => simp at h
  | cons g L ih =>
    cases L with
    | nil =>
      obtain rfl : i = 0 := by simpa using hi
      obtain rfl : g = f := by simpa using h
      rfl
    | cons g2 L =>
      cases i with
      | zero => simp at hi
      | succ i =>
        have := ih i (by simpa using hi) (by simpa using h)
        simp only [faceLast, List.set_cons_succ]; rw [this]

theorem flows_len (b : Bond) : (flowsL b).length = (persF b).length := by unfold flowsL coupsF; rw [faceLast_len, List.length_map]
theorem flows_at (b : Bond) (i : Nat) (p : Per) (h : (persF b)[i]? = some p) : (flowsL b)[i]? = some ⟨p.till, coupF b p + (if i + 1 = (persF b).length then 10000 else 0)⟩ := by
  have := faceLast_at (coupsF b) i ⟨p.till, coupF b p⟩ (by unfold coupsF; rw [List.getElem?_map, h]; rfl)
  have e : (coupsF b).length = (persF b).length := by unfold coupsF; rw [List.length_map]
  rw [e] at this
  exact this

theorem flows_bd {b : Bond} (h : OkBond b) (f : Flow) (hf : f ∈ flowsL b) : 0 ≤ f.amount ∧ f.amount ≤ 13000 ∧ b.start < f.day ∧ f.day ≤ b.stop := by
  obtain ⟨i, hi, rfl⟩ := List.mem_iff_getElem.1 hf
  rw [flows_len] at hi
  have hp : (persF b)[i]? = some (persF b)[i] := by simp [hi]
  have hfi := flows_at b i _ hp
  rw [List.getElem?_eq_getElem (by rw [flows_len]; exact hi)] at hfi
  rw [Option.some.inj hfi]
  have h1 := h.chain.up i _ hp
  have h2 := coup_bd h _ (pers_okPer h _ (List.getElem_mem hi))
  refine ⟨by simp only; split <;> omega, by simp only; split <;> omega, by simp only; omega, by simp only; omega⟩

theorem flows_up {b : Bond} (h : OkBond b) (i j : Nat) (f g : Flow) (hf : (flowsL b)[i]? = some f) (hg : (flowsL b)[j]? = some g) (hij : i < j) : f.day < g.day := by
  have hi := lt_of_at hf
  have hj := lt_of_at hg
  rw [flows_len] at hi hj
  have hp : (persF b)[i]? = some (persF b)[i] := by simp [hi]
  have hq : (persF b)[j]? = some (persF b)[j] := by simp [hj]
  rw [flows_at b i _ hp] at hf
  rw [flows_at b j _ hq] at hg
  obtain rfl := Option.some.inj hf
  obtain rfl := Option.some.inj hg
  have := h.chain.up_till i j _ _ hp hq hij
  have := (h.chain.up j _ hq).2.1
  simp only; omega

theorem filter_drop (L : List Flow) (day : Int) (hup : ∀ (i j : Nat) (f g : Flow), L[i]? = some f → L[j]? = some g → i < j → f.day < g.day) :
    L.filter (fun f => decide (day < f.day)) = L.drop (L.findIdx fun f => decide (day < f.day)) := by
  induction L with
  | nil => rfl
  | cons f L ih =>
    have hL : ∀ (i j : Nat) (f g : Flow), L[i]? = some f → L[j]? = some g → i < j → f.day < g.day := fun i j f g h1 h2 h3 => hup (i + 1) (j + 1) f g (by simpa using h1) (by simpa using h2) (by omega)
    by_cases h : day < f.day
    · have e : (f :: L).findIdx (fun f => decide (day < f.day)) = 0 := by simp [List.findIdx_cons, h]
      rw [e, List.drop_zero, List.filter_eq_self]
      intro g hg
      simp only [decide_eq_true_eq]
      rcases List.mem_cons.1 hg with rfl | hg
      · exact h
      · obtain ⟨j, hj⟩ := List.getElem?_of_mem hg
        have := hup 0 (j + 1) f g rfl (by simpa using hj) (by omega)
        omega
    · have e : (f :: L).findIdx (fun f => decide (day < f.day)) = L.findIdx (fun f => decide (day < f.day)) + 1 := by simp [List.findIdx_cons, h]
      rw [e, List.drop_succ_cons, List.filter_cons_of_neg (by simpa using h), ih hL]

theorem findIdx_congr {α β : Type} (xs : List α) (ys : List β) (p : α → Bool) (q : β → Bool) (hl : xs.length = ys.length) (h : ∀ (i : Nat) (x : α) (y : β), xs[i]? = some x → ys[i]? = some y → p x = q y) : xs.findIdx p = ys.findIdx q := by
  induction xs generalizing ys with
  | nil => cases ys with
    | nil => rfl
    | cons y ys => simp at hl
  | cons x xs ih =>
    cases ys with
    | nil => simp at hl
    | cons y ys =>
      have h0 := h 0 x y rfl rfl
      have := ih ys (by simpa using hl) (fun i a c h1 h2 => h (i + 1) a c (by simpa using h1) (by simpa using h2))
      rw [List.findIdx_cons, List.findIdx_cons, h0, this]

theorem after_drop {b : Bond} (h : OkBond b) (day : Int) : (flowsL b).filter (fun f => decide (day < f.day)) = (flowsL b).drop (atF (persF b) day) := by
  rw [filter_drop _ _ (fun i j f g => flows_up h i j f g)]
  congr 1
  unfold atF
  refine findIdx_congr _ _ _ _ (flows_len b) (fun i f p hf hp => ?_)
  rw [flows_at b i p hp] at hf
  obtain rfl := Option.some.inj hf
  rfl

end Go.Proofs.YtielicmjdhmcjaaGreatDoor

/- Trade: its layout in memory, and what the exact laws do with it: copies, comparison, marks. -/
namespace Go.Proofs.YtielicmjdhmcjaaGreatDoor
open Go.RowKit

structure Trade where
  day : Int
  many : Int
  price : Int
  deriving DecidableEq

def tradeL : Lay Trade := ⟨3, fun b => [.int .i64 b.day, .int .i64 b.many, .int .i64 b.price], fun _ => rfl⟩

theorem trade_at {w : World} {a : Option Addr} {n : Nat} {xs : List Trade} (h : Sl tradeL w a n xs) (k : Nat) (hk : k < n) :
    ∃ b off x, a = some ⟨b, off, none⟩ ∧ xs[k]? = some x ∧ w.cell? ⟨b, off + k * 3, none⟩ = some (.int .i64 x.day) ∧ w.cell? ⟨b, off + k * 3 + 1, none⟩ = some (.int .i64 x.many) ∧ w.cell? ⟨b, off + k * 3 + 2, none⟩ = some (.int .i64 x.price) := by
  obtain ⟨b, off, x, ha, hx, _, hc⟩ := h.at k hk
  exact ⟨b, off, x, ha, hx, hc 0 _ rfl, hc 1 _ rfl, hc 2 _ rfl⟩


end Go.Proofs.YtielicmjdhmcjaaGreatDoor

/- Lot: its layout in memory, and what the exact laws do with it: copies, comparison, marks. -/
namespace Go.Proofs.YtielicmjdhmcjaaGreatDoor
open Go.RowKit

structure Lot where
  many : Int
  price : Int
  deriving DecidableEq

def lotL : Lay Lot := ⟨2, fun b => [.int .i64 b.many, .int .i64 b.price], fun _ => rfl⟩

theorem lot_at {w : World} {a : Option Addr} {n : Nat} {xs : List Lot} (h : Sl lotL w a n xs) (k : Nat) (hk : k < n) :
    ∃ b off x, a = some ⟨b, off, none⟩ ∧ xs[k]? = some x ∧ w.cell? ⟨b, off + k * 2, none⟩ = some (.int .i64 x.many) ∧ w.cell? ⟨b, off + k * 2 + 1, none⟩ = some (.int .i64 x.price) := by
  obtain ⟨b, off, x, ha, hx, _, hc⟩ := h.at k hk
  exact ⟨b, off, x, ha, hx, hc 0 _ rfl, hc 1 _ rfl⟩


end Go.Proofs.YtielicmjdhmcjaaGreatDoor

/- Range: its layout in memory, and what the exact laws do with it: copies, comparison, marks. -/
namespace Go.Proofs.YtielicmjdhmcjaaGreatDoor
open Go.RowKit

structure Range where
  low : Int
  high : Int
  deriving DecidableEq

def rangeL : Lay Range := ⟨2, fun b => [.int .i64 b.low, .int .i64 b.high], fun _ => rfl⟩

theorem range_at {w : World} {a : Option Addr} {n : Nat} {xs : List Range} (h : Sl rangeL w a n xs) (k : Nat) (hk : k < n) :
    ∃ b off x, a = some ⟨b, off, none⟩ ∧ xs[k]? = some x ∧ w.cell? ⟨b, off + k * 2, none⟩ = some (.int .i64 x.low) ∧ w.cell? ⟨b, off + k * 2 + 1, none⟩ = some (.int .i64 x.high) := by
  obtain ⟨b, off, x, ha, hx, _, hc⟩ := h.at k hk
  exact ⟨b, off, x, ha, hx, hc 0 _ rfl, hc 1 _ rfl⟩


end Go.Proofs.YtielicmjdhmcjaaGreatDoor

/- Accrued interest, payments and mean lives in plain Lean: what the laws say of them. No program in sight. -/
namespace Go.Proofs.YtielicmjdhmcjaaGreatDoor
open Go.RowKit

def atRate (b : Bond) (r : Int) : Bond := ⟨b.start, b.stop, b.months, r⟩

theorem run_rate {b : Bond} {day : Int} (h : runB b day = true) (r : Int) (h0 : 0 ≤ r) (h1 : r ≤ 3000) : runB (atRate b r) day = true := by
  obtain ⟨hok, hd0, hd1⟩ := run_facts h
  have h2 : OkBond (atRate b r) := ⟨hok.span, h0, h1⟩
  unfold runB
  rw [h2.bool]
  simp only [Bool.true_and, Bool.and_eq_true, decide_eq_true_eq]
  exact ⟨hd0, hd1⟩

theorem coup_rate {b : Bond} (h : OkBond b) (r : Int) (hr : b.rate ≤ r) (p : Per) (hp : OkPer b p) : coupF b p ≤ coupF (atRate b r) p := by
  have hm := h.span.mpos
  have hw : wholeC b.rate b.months ≤ wholeC r b.months := by
    unfold wholeC
    exact near_mono _ _ _ (Int.mul_le_mul_of_nonneg_right (by omega) (by omega)) (by omega)
  unfold coupF couponF atRate
  split
  · exact hw
  · refine near_mono _ _ _ ?_ (by have := hp.bt; omega)
    exact Int.mul_le_mul_of_nonneg_right hw (by have := hp.ft; omega)

theorem coup_zero {b : Bond} (_h : OkBond b) (p : Per) (hp : OkPer b p) : coupF (atRate b 0) p = 0 := by
  have hw : wholeC 0 b.months = 0 := by
    unfold wholeC; rw [Int.mul_zero, Int.zero_mul]; exact near_zero _ (by omega)
  unfold coupF couponF atRate
  simp only
  rw [hw, Int.zero_mul, near_zero _ (by have := hp.bt; omega)]
  simp

theorem acc_more {b : Bond} {day : Int} (h : runB b day = true) (r : Int) (hr : b.rate ≤ r) : accL b day ≤ accL (atRate b r) day := by
  obtain ⟨hok, hd0, hd1⟩ := run_facts h
  obtain ⟨_, a, c, hm, _⟩ := perAt_spec hok day hd0 hd1
  have hp := pers_okPer hok _ hm
  have hc := coup_rate hok r hr _ hp
  have e : perAt (atRate b r) day = perAt b day := rfl
  unfold accL
  rw [e]
  exact near_mono _ _ _ (Int.mul_le_mul_of_nonneg_right hc (by omega)) (by omega)

theorem acc_zero {b : Bond} {day : Int} (h : runB b day = true) : accL (atRate b 0) day = 0 := by
  obtain ⟨hok, hd0, hd1⟩ := run_facts h
  obtain ⟨_, a, c, hm, _⟩ := perAt_spec hok day hd0 hd1
  have hp := pers_okPer hok _ hm
  have e : perAt (atRate b 0) day = perAt b day := rfl
  unfold accL
  rw [e, coup_zero hok _ hp, Int.zero_mul]
  exact near_zero _ (by omega)

theorem accF_rate {b : Bond} {day : Int} (h : runB b day = true) : accF b day ≤ accF (atRate b (min (b.rate + 1) 3000)) day ∧ accF (atRate b 0) day = 0 := by
  obtain ⟨hok, _, _⟩ := run_facts h
  have h0 := hok.r0; have h1 := hok.r1
  have hm := acc_more h (min (b.rate + 1) 3000) (by omega)
  have hz := acc_zero h
  unfold accF
  rw [if_pos h, if_pos (run_rate h _ (by omega) (by omega)), if_pos (run_rate h 0 (by omega) (by omega))]
  exact ⟨hm, hz⟩

/- Payments behind a day. -/
theorem at_le (b : Bond) (day : Int) : atF (persF b) day ≤ (persF b).length := List.findIdx_le_length
theorem after_eq {b : Bond} (h : bondB b = true) (day : Int) : afterF b day = (flowsL b).drop (atF (persF b) day) := by
  unfold afterF flowsF; rw [if_pos h, after_drop (ok_bond h)]
theorem flowsF_ok {b : Bond} (h : bondB b = true) : flowsF b = flowsL b := by unfold flowsF; rw [if_pos h]
theorem flowsF_no {b : Bond} (h : bondB b = false) : flowsF b = [] := by unfold flowsF; rw [if_neg (by rw [h]; simp)]
theorem afterF_no {b : Bond} (h : bondB b = false) (day : Int) : afterF b day = [] := by unfold afterF; rw [flowsF_no h]; rfl
theorem after_len {b : Bond} (h : bondB b = true) (day : Int) : (afterF b day).length = (persF b).length - atF (persF b) day := by
  rw [after_eq h, List.length_drop, flows_len]
theorem flow_day {b : Bond} (i : Nat) (f : Flow) (hf : (flowsL b)[i]? = some f) : ∃ p, (persF b)[i]? = some p ∧ f.day = p.till := by
  have hi := lt_of_at hf
  rw [flows_len] at hi
  have hp : (persF b)[i]? = some (persF b)[i] := by simp [hi]
  rw [flows_at b i _ hp] at hf
  obtain rfl := Option.some.inj hf
  exact ⟨_, hp, rfl⟩
theorem after_before {b : Bond} (day : Int) (i : Nat) (f : Flow) (hi : i < atF (persF b) day) (hf : (flowsL b)[i]? = some f) : f.day ≤ day := by
  obtain ⟨p, hp, e⟩ := flow_day i f hf
  have hil := lt_of_at hp
  unfold atF at hi
  have := List.not_of_lt_findIdx (p := fun p : Per => decide (day < p.till)) (xs := persF b) (i := i) hi
  have e2 : (persF b)[i] = p := by rw [List.getElem?_eq_getElem hil] at hp; exact Option.some.inj hp
  rw [e2] at this
  rw [e]; simpa using this
theorem after_behind {b : Bond} (day : Int) (f : Flow) (hf : f ∈ afterF b day) : day < f.day := by
  unfold afterF at hf
  rw [List.mem_filter] at hf
  simpa using hf.2
theorem after_stop (b : Bond) : afterF b b.stop = [] := by
  by_cases h : bondB b = true
  · unfold afterF
    rw [flowsF_ok h, List.filter_eq_nil_iff]
    intro f hf
    have := flows_bd (ok_bond h) f hf
    simp only [decide_eq_true_eq]; omega
  · have h : bondB b = false := by simpa using h
    exact afterF_no h _
theorem after_start (b : Bond) : afterF b (b.start - 1) = flowsF b := by
  by_cases h : bondB b = true
  · unfold afterF
    rw [flowsF_ok h, List.filter_eq_self]
    intro f hf
    have := flows_bd (ok_bond h) f hf
    simp only [decide_eq_true_eq]; omega
  · have h : bondB b = false := by simpa using h
    rw [afterF_no h, flowsF_no h]

theorem next_spec {b : Bond} {day : Int} {f : Flow} (hf : (afterF b day)[0]? = some f) : bondB b = true ∧ day < f.day ∧ f ∈ flowsF b ∧ ∀ g ∈ flowsF b, day < g.day → f.day ≤ g.day := by
  cases hb : bondB b with
  | false => rw [afterF_no hb] at hf; cases hf
  | true =>
    have hm := List.mem_of_getElem? hf
    have hd := after_behind day f hm
    have hmf : f ∈ flowsF b := by unfold afterF at hm; exact (List.mem_filter.1 hm).1
    refine ⟨rfl, hd, hmf, fun g hg hgd => ?_⟩
    have hga : g ∈ afterF b day := by unfold afterF; rw [List.mem_filter]; exact ⟨hg, by simpa using hgd⟩
    obtain ⟨j, hj⟩ := List.getElem?_of_mem hga
    rw [after_eq hb, List.getElem?_drop] at hf hj
    by_cases h0 : j = 0
    · subst h0; rw [hf] at hj; cases hj; omega
    · have := flows_up (ok_bond hb) _ _ f g hf hj (by omega); omega

/- Accrued interest within a period. -/
theorem perAt_of {b : Bond} (h : OkBond b) (i : Nat) (p : Per) (hp : (persF b)[i]? = some p) (day : Int) (h1 : p.frm ≤ day) (h2 : day < p.till) : atF (persF b) day = i ∧ perAt b day = p := by
  have e := h.chain.at_uniq day i p hp h1 h2
  refine ⟨e, ?_⟩
  unfold perAt
  rw [e, List.getD_eq_getElem?_getD, hp]; rfl
theorem per_in {b : Bond} (h : OkBond b) (i : Nat) (p : Per) (hp : (persF b)[i]? = some p) (day : Int) (h1 : p.frm ≤ day) (h2 : day < p.till) : b.start ≤ day ∧ day < b.stop := by
  have := h.chain.up i p hp
  omega
theorem acc_next {b : Bond} {day : Int} (h : runB b day = true) (h2 : day + 1 < (perAt b day).till) : runB b (day + 1) = true ∧ accL b day ≤ accL b (day + 1) := by
  obtain ⟨hok, hd0, hd1⟩ := run_facts h
  obtain ⟨hp, a, c, hm, _⟩ := perAt_spec hok day hd0 hd1
  have hi := per_in hok _ _ hp (day + 1) (by omega) h2
  have he := (perAt_of hok _ _ hp (day + 1) (by omega) h2).2
  have hc := coup_bd hok _ (pers_okPer hok _ hm)
  constructor
  · unfold runB; rw [hok.bool]
    simp only [Bool.true_and, Bool.and_eq_true, decide_eq_true_eq]; exact hi
  · unfold accL
    rw [he]
    exact near_mono _ _ _ (Int.mul_le_mul_of_nonneg_left (by omega) hc.1) (by omega)
theorem acc_begin {b : Bond} {day : Int} (h : runB b day = true) : accF b (perAt b day).frm = 0 := by
  obtain ⟨hok, hd0, hd1⟩ := run_facts h
  obtain ⟨hp, a, c, hm, _⟩ := perAt_spec hok day hd0 hd1
  have hi := per_in hok _ _ hp (perAt b day).frm (by omega) (by omega)
  have he := (perAt_of hok _ _ hp (perAt b day).frm (by omega) (by omega)).2
  unfold accF
  rw [if_pos (by
    unfold runB; rw [hok.bool]
    simp only [Bool.true_and, Bool.and_eq_true, decide_eq_true_eq]; exact hi)]
  unfold accL
  rw [he, Int.sub_self, Int.mul_zero]
  exact near_zero _ (by omega)

def perIdx (L : List Per) (day : Int) : Int := if L.findIdx (fun p => decide (p.frm ≤ day) && decide (day < p.till)) < L.length then L.findIdx (fun p => decide (p.frm ≤ day) && decide (day < p.till)) else -1
theorem perIdx_run {b : Bond} {day : Int} (h : runB b day = true) : perIdx (persF b) day = atF (persF b) day := by
  obtain ⟨hok, hd0, hd1⟩ := run_facts h
  obtain ⟨hp, a, c, hm, hl⟩ := perAt_spec hok day hd0 hd1
  have hex : (persF b).findIdx (fun p => decide (p.frm ≤ day) && decide (day < p.till)) < (persF b).length := by
    refine List.findIdx_lt_length_of_exists ⟨perAt b day, hm, ?_⟩
    simp only [Bool.and_eq_true, decide_eq_true_eq]; exact ⟨a, c⟩
  unfold perIdx
  rw [if_pos hex]
  have hq := List.findIdx_getElem (xs := persF b) (p := fun p : Per => decide (p.frm ≤ day) && decide (day < p.till)) (w := hex)
  simp only [Bool.and_eq_true, decide_eq_true_eq] at hq
  have := (perAt_of hok _ _ (by rw [List.getElem?_eq_getElem hex]) day hq.1 hq.2).1
  omega

/- Mean lives. -/
def lifeN (day : Int) : List Flow → Int
  | [] => 0
  | x :: xs => x.amount * (x.day - day) + lifeN day xs
def lifeW : List Flow → Int
  | [] => 0
  | x :: xs => x.amount + lifeW xs
def lifeL (b : Bond) (day : Int) : Int := lifeN day (afterF b day) / lifeW (afterF b day)
def lifeF (b : Bond) (day : Int) : Int := if runB b day = true then lifeL b day else -1
theorem lifeN_snoc (day : Int) (xs : List Flow) (x : Flow) : lifeN day (xs ++ [x]) = lifeN day xs + x.amount * (x.day - day) := by
  induction xs with
  | nil => simp [lifeN]
  | cons y ys ih => simp only [List.cons_append, lifeN, ih]; omega
theorem lifeW_snoc (xs : List Flow) (x : Flow) : lifeW (xs ++ [x]) = lifeW xs + x.amount := by
  induction xs with
  | nil => simp [lifeW]
  | cons y ys ih => simp only [List.cons_append, lifeW, ih]; omega

theorem life_bd (day lo hi : Int) (xs : List Flow) (h : ∀ x ∈ xs, 0 ≤ x.amount ∧ x.amount ≤ 13000 ∧ lo ≤ x.day ∧ x.day ≤ hi) :
    (lo - day) * lifeW xs ≤ lifeN day xs ∧ lifeN day xs ≤ (hi - day) * lifeW xs ∧ 0 ≤ lifeW xs ∧ lifeW xs ≤ 13000 * xs.length := by
  induction xs with
  | nil => simp [lifeN, lifeW]
  | cons x xs ih =>
    obtain ⟨h1, h2, h3, h4⟩ := ih (fun z hz => h z (List.mem_cons_of_mem _ hz))
    obtain ⟨a, b, c, d⟩ := h x (by simp)
    have s1 : x.amount * (lo - day) ≤ x.amount * (x.day - day) := Int.mul_le_mul_of_nonneg_left (by omega) a
    have s2 : x.amount * (x.day - day) ≤ x.amount * (hi - day) := Int.mul_le_mul_of_nonneg_left (by omega) a
    rw [Int.mul_comm x.amount] at s1
    rw [Int.mul_comm x.amount (hi - day)] at s2
    simp only [lifeN, lifeW, List.length_cons, Int.mul_add]
    push_cast
    omega

theorem life_take {day lo hi : Int} {xs : List Flow} (h : ∀ x ∈ xs, 0 ≤ x.amount ∧ x.amount ≤ 13000 ∧ lo ≤ x.day ∧ x.day ≤ hi) (k : Nat) :
    (lo - day) * lifeW (xs.take k) ≤ lifeN day (xs.take k) ∧ lifeN day (xs.take k) ≤ (hi - day) * lifeW (xs.take k) ∧ 0 ≤ lifeW (xs.take k) ∧ lifeW (xs.take k) ≤ 13000 * (xs.take k).length :=
  life_bd day lo hi _ (fun x hx => h x (List.mem_of_mem_take hx))

theorem lifeW_last (xs : List Flow) (x : Flow) (h : ∀ x ∈ xs, 0 ≤ x.amount) (hx : x ∈ xs) : x.amount ≤ lifeW xs := by
  have hn : ∀ ys : List Flow, (∀ y ∈ ys, 0 ≤ y.amount) → 0 ≤ lifeW ys := by
    intro ys hy
    induction ys with
    | nil => simp [lifeW]
    | cons y ys ih => have := ih (fun z hz => hy z (List.mem_cons_of_mem _ hz)); have := hy y (by simp); simp only [lifeW]; omega
  induction xs with
  | nil => cases hx
  | cons y ys ih =>
    have h0 := h y (by simp)
    have h1 := hn ys (fun z hz => h z (List.mem_cons_of_mem _ hz))
    simp only [lifeW]
    rcases List.mem_cons.1 hx with rfl | hx
    · omega
    · have := ih (fun z hz => h z (List.mem_cons_of_mem _ hz)) hx; omega

theorem after_bd {b : Bond} {day : Int} (h : bondB b = true) (x : Flow) (hx : x ∈ afterF b day) : 0 ≤ x.amount ∧ x.amount ≤ 13000 ∧ day < x.day ∧ b.start < x.day ∧ x.day ≤ b.stop := by
  have h1 := after_behind day x hx
  unfold afterF at hx
  rw [flowsF_ok h] at hx
  have := flows_bd (ok_bond h) x (List.mem_filter.1 hx).1
  omega

theorem after_lastIn {b : Bond} {day : Int} (h : runB b day = true) : ∃ x, x ∈ afterF b day ∧ 10000 ≤ x.amount ∧ x.day = b.stop := by
  obtain ⟨hok, hd0, hd1⟩ := run_facts h
  have hl := hok.chain.ne
  have hp : (persF b)[(persF b).length - 1]? = some ((persF b)[(persF b).length - 1]'(by omega)) := by simp [show (persF b).length - 1 < (persF b).length by omega]
  have ht := hok.chain.last _ hp
  have hf := flows_at b _ _ hp
  rw [if_pos (by omega)] at hf
  have hc := coup_bd hok _ (pers_okPer hok _ (List.mem_of_getElem? hp))
  refine ⟨⟨((persF b)[(persF b).length - 1]'(by omega)).till, coupF b ((persF b)[(persF b).length - 1]'(by omega)) + 10000⟩, ?_, ?_, ht⟩
  · unfold afterF
    rw [flowsF_ok hok.bool, List.mem_filter]
    exact ⟨List.mem_of_getElem? hf, by simp only [decide_eq_true_eq, ht]; exact hd1⟩
  · simp only; omega

theorem life_facts {b : Bond} {day : Int} (h : runB b day = true) : 10000 ≤ lifeW (afterF b day) ∧ lifeW (afterF b day) ≤ 520000 ∧ 0 ≤ lifeN day (afterF b day) ∧ lifeN day (afterF b day) ≤ (b.stop - day) * lifeW (afterF b day) := by
  obtain ⟨hok, hd0, hd1⟩ := run_facts h
  have hb := life_bd day day b.stop (afterF b day) (fun x hx => by have := after_bd hok.bool x hx; omega)
  obtain ⟨x, hx, h1, _⟩ := after_lastIn h
  have h2 := lifeW_last _ x (fun y hy => (after_bd hok.bool y hy).1) hx
  have h3 := after_len hok.bool day
  have h4 : (persF b).length ≤ 40 := by unfold persF; rw [sched_len]; exact hok.span.q2
  rw [Int.sub_self, Int.zero_mul] at hb
  omega

theorem life_le {b : Bond} {day : Int} (h : runB b day = true) : lifeF b day = lifeL b day ∧ 0 ≤ lifeL b day ∧ lifeL b day ≤ b.stop - day := by
  obtain ⟨h1, h2, h3, h4⟩ := life_facts h
  refine ⟨by unfold lifeF; rw [if_pos h], ?_, ?_⟩
  · unfold lifeL; exact Int.ediv_nonneg h3 (by omega)
  · unfold lifeL
    have := Int.ediv_le_ediv (c := lifeW (afterF b day)) (by omega) h4
    rwa [Int.mul_ediv_cancel _ (by omega)] at this
theorem life_no {b : Bond} {day : Int} (h : runB b day = false) : lifeF b day = -1 := by unfold lifeF; rw [if_neg (by rw [h]; simp)]

theorem life_ge {b : Bond} {day : Int} (h : runB b day = true) : ∃ f, (afterF b day)[0]? = some f ∧ f.day - day ≤ lifeL b day := by
  obtain ⟨h1, h2, h3, h4⟩ := life_facts h
  obtain ⟨hok, hd0, hd1⟩ := run_facts h
  obtain ⟨x, hx, _⟩ := after_lastIn h
  have hl : 0 < (afterF b day).length := List.length_pos_of_mem hx
  have hf : (afterF b day)[0]? = some (afterF b day)[0] := by simp [hl]
  obtain ⟨_, n1, n2, n3⟩ := next_spec hf
  refine ⟨_, hf, ?_⟩
  have hb := life_bd day (afterF b day)[0].day b.stop (afterF b day) (fun x hx => by
    have := after_bd hok.bool x hx
    have := n3 x (by unfold afterF at hx; exact (List.mem_filter.1 hx).1) (by omega)
    omega)
  unfold lifeL
  have := Int.ediv_le_ediv (c := lifeW (afterF b day)) (by omega) hb.1
  rwa [Int.mul_ediv_cancel _ (by omega)] at this

theorem lifes_zero (day e : Int) (xs : List Flow) (h : ∀ x ∈ xs, x.amount ≠ 0 → x.day = e) : lifeN day xs = lifeW xs * (e - day) := by
  induction xs with
  | nil => simp [lifeN, lifeW]
  | cons x xs ih =>
    simp only [lifeN, lifeW, Int.add_mul]
    rw [ih (fun z hz => h z (List.mem_cons_of_mem _ hz))]
    by_cases h0 : x.amount = 0
    · rw [h0]; simp
    · rw [h x (by simp) h0]

theorem life_zero {b : Bond} {day : Int} (h : runB b day = true) : lifeF (atRate b 0) day = b.stop - day := by
  have h2 := run_rate h 0 (by omega) (by omega)
  obtain ⟨hok, hd0, hd1⟩ := run_facts h
  obtain ⟨hok2, _, _⟩ := run_facts h2
  obtain ⟨h3, h4, h5, h6⟩ := life_facts h2
  rw [(life_le h2).1]
  unfold lifeL
  rw [lifes_zero day b.stop (afterF (atRate b 0) day) (fun x hx hne => by
    unfold afterF at hx
    rw [flowsF_ok hok2.bool] at hx
    obtain ⟨i, hi⟩ := List.getElem?_of_mem (List.mem_filter.1 hx).1
    have hil := lt_of_at hi
    rw [flows_len] at hil
    have hp : (persF (atRate b 0))[i]? = some (persF (atRate b 0))[i] := by simp [hil]
    have hz := coup_zero hok _ (pers_okPer hok _ (List.mem_of_getElem? hp))
    rw [flows_at _ i _ hp, hz] at hi
    obtain rfl := Option.some.inj hi
    simp only at hne ⊢
    by_cases he : i + 1 = (persF (atRate b 0)).length
    · exact hok.chain.last _ (by rw [← hp]; show (persF (atRate b 0))[(persF (atRate b 0)).length - 1]? = _; congr 1; omega)
    · rw [if_neg he] at hne; omega)]
  exact Int.mul_ediv_cancel_left _ (by omega)

/- What is paid on a day. -/
def payAmt (day : Int) : List Flow → Int
  | [] => 0
  | x :: xs => (if x.day = day then x.amount else 0) + payAmt day xs
theorem payAmt_snoc (day : Int) (xs : List Flow) (x : Flow) : payAmt day (xs ++ [x]) = payAmt day xs + (if x.day = day then x.amount else 0) := by
  induction xs with
  | nil => simp [payAmt]
  | cons y ys ih => simp only [List.cons_append, payAmt, ih]; omega
theorem payAmt_none (day : Int) (xs : List Flow) (h : ∀ x ∈ xs, x.day ≠ day) : payAmt day xs = 0 := by
  induction xs with
  | nil => rfl
  | cons x xs ih => simp only [payAmt]; rw [if_neg (h x (by simp)), ih (fun z hz => h z (List.mem_cons_of_mem _ hz))]; rfl
theorem payAmt_bd (day : Int) (xs : List Flow) (hup : ∀ (i j : Nat) (f g : Flow), xs[i]? = some f → xs[j]? = some g → i < j → f.day < g.day) (h : ∀ x ∈ xs, 0 ≤ x.amount ∧ x.amount ≤ 13000) : 0 ≤ payAmt day xs ∧ payAmt day xs ≤ 13000 := by
  induction xs with
  | nil => simp [payAmt]
  | cons x xs ih =>
    have h0 := h x (by simp)
    have h1 := ih (fun i j f g a c d => hup (i + 1) (j + 1) f g (by simpa using a) (by simpa using c) (by omega)) (fun z hz => h z (List.mem_cons_of_mem _ hz))
    simp only [payAmt]
    split
    · rename_i he
      rw [payAmt_none day xs (fun z hz => by
        obtain ⟨j, hj⟩ := List.getElem?_of_mem hz
        have := hup 0 (j + 1) x z rfl (by simpa using hj) (by omega)
        omega)]
      omega
    · omega
theorem payAmt_hit {b : Bond} (h : OkBond b) (day : Int) (k : Nat) (f : Flow) (hf : (flowsL b)[k]? = some f) (he : f.day = day) : payAmt day ((flowsL b).take k) = 0 ∧ payAmt day ((flowsL b).take (k + 1)) = f.amount := by
  have h0 : payAmt day ((flowsL b).take k) = 0 := payAmt_none _ _ (fun x hx => by
    obtain ⟨i, hi⟩ := List.getElem?_of_mem hx
    have hik : i < k := by have := lt_of_at hi; rw [List.length_take] at this; omega
    rw [List.getElem?_take_of_lt hik] at hi
    have := flows_up h i k x f hi hf hik
    omega)
  refine ⟨h0, ?_⟩
  rw [take_snoc _ _ _ hf, payAmt_snoc, h0, if_pos he]; omega

end Go.Proofs.YtielicmjdhmcjaaGreatDoor

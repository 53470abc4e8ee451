/- core: programs, plainly. -/
import Derived.Test.YtlbebneblmgdcaaDoorCoreStepA
namespace Go.Proofs.YtlbebneblmgdcaaDoor
open Go.RowKit
set_option maxRecDepth 100000

def regOk (x : Int) : Prop := 0 ≤ x ∧ x ≤ 4294967295
def regsIn (R : List Int) : Prop := R.length = 8 ∧ ∀ x ∈ R, regOk x

theorem regsIn.getD {R : List Int} (h : regsIn R) (k : Nat) : regOk (R.getD k 0) := by
  rw [List.getD_eq_getElem?_getD]
  cases hk : R[k]? with
  | none => exact ⟨by simp, by simp⟩
  | some x => exact h.2 x (List.mem_of_getElem? hk)
theorem regsIn.set {R : List Int} (h : regsIn R) (k : Nat) {x : Int} (hx : regOk x) : regsIn (R.set k x) := by
  refine ⟨by rw [List.length_set]; exact h.1, fun y hy => ?_⟩
  rcases List.mem_or_eq_of_mem_set hy with q | rfl
  · exact h.2 y q
  · exact hx
theorem bits_and_in {x y : Int} (hx : regOk x) (hy : regOk y) : regOk (bits .and .u32 x y) := by
  obtain ⟨x0, x1⟩ := hx
  obtain ⟨y0, y1⟩ := hy
  rw [Go.u32_and x y x0 (by omega) y0 (by omega)]
  have := Nat.and_lt_two_pow x.toNat (n := 32) (show y.toNat < 2 ^ 32 by omega)
  exact ⟨by omega, by omega⟩
theorem bits_or_in {x y : Int} (hx : regOk x) (hy : regOk y) : regOk (bits .or .u32 x y) := by
  obtain ⟨x0, x1⟩ := hx
  obtain ⟨y0, y1⟩ := hy
  rw [Go.u32_or x y x0 (by omega) y0 (by omega)]
  have := Nat.or_lt_two_pow (n := 32) (show x.toNat < 2 ^ 32 by omega) (show y.toNat < 2 ^ 32 by omega)
  exact ⟨by omega, by omega⟩
theorem bits_xor_in {x y : Int} (hx : regOk x) (hy : regOk y) : regOk (bits .xor .u32 x y) := by
  obtain ⟨x0, x1⟩ := hx
  obtain ⟨y0, y1⟩ := hy
  rw [Go.u32_xor x y x0 (by omega) y0 (by omega)]
  have := Nat.xor_lt_two_pow (n := 32) (show x.toNat < 2 ^ 32 by omega) (show y.toNat < 2 ^ 32 by omega)
  exact ⟨by omega, by omega⟩
theorem opR_in (o : Int) {x y : Int} (hx : regOk x) (hy : regOk y) : regOk (opR o x y) := by
  unfold opR
  have hmod : ∀ v : Int, regOk (v % 4294967296) := fun v => ⟨by omega, by omega⟩
  split
  · exact hmod _
  · split
    · exact hmod _
    · split
      · exact hmod _
      · split
        · exact bits_and_in hx hy
        · split
          · exact bits_or_in hx hy
          · split
            · exact bits_xor_in hx hy
            · split
              · exact hmod _
              · split
                · have h0 := hx.1
                  have h1 := hx.2
                  exact ⟨Int.ediv_nonneg h0 (Int.le_of_lt (Int.pow_pos (by omega))), Int.le_trans (Int.ediv_le_self _ h0) h1⟩
                · split
                  · exact ⟨by omega, by omega⟩
                  · exact ⟨by omega, by omega⟩

/-- What an instruction keeps. -/
structure OutOk (m n : Nat) (o : Out) : Prop where
  regs : regsIn o.R
  pc : regOk o.pc
  inv : invS m o.S
  len : o.S.length = n

/-- What is asked of each step. -/
def OutP (m n : Nat) (o : Out) : Prop := OutOk m n o ∧ (o.s.k = 0 → o.s = goesS)
theorem pow_le4 {L : Nat} (h : L ≤ 4) : (256 : Int) ^ L ≤ 4294967296 := by
  rcases (show L = 0 ∨ L = 1 ∨ L = 2 ∨ L = 3 ∨ L = 4 by omega) with rfl | rfl | rfl | rfl | rfl <;> decide
theorem loadO_ok {m n : Nat} {S : List Fr} (hS : okS S) (hI : invS m S) (hl : S.length = n) (root : Int) {R : List Int} (hR : regsIn R) {pc : Int} (hp : regOk pc) (a b : Nat) (c k : Int) (hk : 0 ≤ k ∧ k ≤ 4) : OutP m n (loadO S root R pc a b c k) := by
  unfold loadO
  split
  · rename_i he
    have h1 := fetchR_len he
    have h2 := numR_range (fetchR S root (memAt R b c) k).2 (fetchR_range hS)
    have h3 : (fetchR S root (memAt R b c) k).2.length ≤ 4 := by omega
    have h4 := pow_le4 h3
    exact ⟨⟨hR.set a ⟨h2.1, by omega⟩, hp, hI, hl⟩, fun _ => rfl⟩
  · exact ⟨⟨hR, hp, hI, hl⟩, fun h => by simp [faultS] at h⟩
theorem storeO_ok {m n : Nat} {S : List Fr} (hI : invS m S) (hl : S.length = n) (root : Int) {R : List Int} (hR : regsIn R) {pc : Int} (hp : regOk pc) (a b : Nat) (c : Int) (k : Nat) : OutP m n (storeO S root R pc a b c k) := by
  refine ⟨⟨hR, hp, storeR_inv hI, (storeR_len).trans hl⟩, fun h => ?_⟩
  unfold storeO at h ⊢
  dsimp only at h ⊢
  split at h
  · rename_i h1; rw [if_pos h1]
  · simp [faultS] at h

theorem doR_ok {m n : Nat} {S : List Fr} (hS : okS S) (hI : invS m S) (hl : S.length = n) (root : Int) {R : List Int} (hR : regsIn R) {pc : Int} (hp : regOk pc) (o a b c : Int) (hb : 0 ≤ b ∧ b ≤ 255) (hc : 0 ≤ c ∧ c ≤ 255) :
    OutP m n (doR S root R pc o a b c) := by
  have hk : regOk (b + 256 * c) := ⟨by omega, by omega⟩
  have hj : ∀ v : Int, regOk (v % 1048576) := fun v => ⟨by omega, by omega⟩
  have plain : ∀ (R' : List Int) (pc' : Int), regsIn R' → regOk pc' → OutP m n ⟨R', pc', goesS, S⟩ := fun R' pc' h1 h2 => ⟨⟨h1, h2, hI, hl⟩, fun _ => rfl⟩
  unfold doR
  by_cases h1 : o = 0
  · rw [if_pos h1]
    exact ⟨⟨hR, hp, hI, hl⟩, fun h => by simp [haltS] at h⟩
  rw [if_neg h1]
  by_cases h2 : o = 1
  · rw [if_pos h2]
    exact plain _ _ (hR.set _ hk) hp
  rw [if_neg h2]
  by_cases h3 : o = 2
  · rw [if_pos h3]
    refine plain _ _ (hR.set _ ?_) hp
    have := hR.getD a.toNat
    unfold regOk at this
    exact ⟨by omega, by omega⟩
  rw [if_neg h3]
  by_cases h4 : o = 3
  · rw [if_pos h4]
    exact plain _ _ (hR.set _ (hR.getD _)) hp
  rw [if_neg h4]
  by_cases h5 : o ≤ 12
  · rw [if_pos h5]
    exact plain _ _ (hR.set _ (opR_in _ (hR.getD _) (hR.getD _))) hp
  rw [if_neg h5]
  by_cases h6 : o = 13
  · rw [if_pos h6]
    exact loadO_ok hS hI hl root hR hp _ _ _ _ (by omega)
  rw [if_neg h6]
  by_cases h7 : o = 14
  · rw [if_pos h7]
    exact loadO_ok hS hI hl root hR hp _ _ _ _ (by omega)
  rw [if_neg h7]
  by_cases h8 : o = 15
  · rw [if_pos h8]
    exact storeO_ok hI hl root hR hp _ _ _ _
  rw [if_neg h8]
  by_cases h9 : o = 16
  · rw [if_pos h9]
    exact storeO_ok hI hl root hR hp _ _ _ _
  rw [if_neg h9]
  by_cases h10 : o = 17
  · rw [if_pos h10]
    exact plain _ _ hR (hj _)
  rw [if_neg h10]
  by_cases h11 : o = 18
  · rw [if_pos h11]
    refine plain _ _ hR ?_
    split
    · exact hj _
    · exact hp
  rw [if_neg h11]
  by_cases h12 : o = 19
  · rw [if_pos h12]
    refine plain _ _ hR ?_
    split
    · exact hj _
    · exact hp
  rw [if_neg h12]
  exact ⟨⟨hR, hp, hI, hl⟩, fun h => by simp at h⟩

theorem workR_ok {m n : Nat} {S : List Fr} (hS : okS S) (hI : invS m S) (hl : S.length = n) (root : Int) {R : List Int} (hR : regsIn R) {pc : Int} (hp : regOk pc) (o a b c : Int) (hb : 0 ≤ b ∧ b ≤ 255) (hc : 0 ≤ c ∧ c ≤ 255) :
    OutP m n (workR S root R pc o a b c) := by
  have hj : regOk ((pc + 4) % 1048576) := ⟨by omega, by omega⟩
  have hd := doR_ok hS hI hl root hR hj o a b c hb hc
  have hf : OutP m n ⟨R, pc, faultS 191, S⟩ := ⟨⟨hR, hp, hI, hl⟩, fun h => by simp [faultS] at h⟩
  unfold workR
  split
  · exact hf
  split
  · exact hf
  split
  · exact ⟨⟨hR, hp, hd.1.inv, hd.1.len⟩, hd.2⟩
  · exact hd
theorem stepR_ok {m n : Nat} {S : List Fr} (hS : okS S) (hI : invS m S) (hl : S.length = n) (root : Int) {R : List Int} (hR : regsIn R) {pc : Int} (hp : regOk pc) :
    OutP m n (stepR S root R pc) := by
  unfold stepR
  split
  · exact ⟨⟨hR, hp, hI, hl⟩, fun h => by simp [faultS] at h⟩
  · rename_i he
    obtain ⟨o, a, b, c, hbs⟩ := four_of (fetchR_len (Decidable.not_not.1 he))
    have hr := fetchR_range (root := root) (va := pc) (n := 4) hS
    rw [hbs] at hr ⊢
    simp only [List.getD_cons_zero, List.getD_cons_succ]
    exact workR_ok hS hI hl root hR hp o a b c (hr b (by simp)) (hr c (by simp))

/-- A step that stays where it is changes nothing in memory. -/
def Same (S : List Fr) (pc : Int) (o : Out) : Prop := o.S ≠ S → o.pc = pc
theorem doR_same (S : List Fr) (root : Int) (R : List Int) (pc o a b c : Int) : Same S pc (doR S root R pc o a b c) := by
  unfold doR
  by_cases h1 : o = 0
  · rw [if_pos h1]
    intro h; exact absurd rfl h
  rw [if_neg h1]
  by_cases h2 : o = 1
  · rw [if_pos h2]
    intro h; exact absurd rfl h
  rw [if_neg h2]
  by_cases h3 : o = 2
  · rw [if_pos h3]
    intro h; exact absurd rfl h
  rw [if_neg h3]
  by_cases h4 : o = 3
  · rw [if_pos h4]
    intro h; exact absurd rfl h
  rw [if_neg h4]
  by_cases h5 : o ≤ 12
  · rw [if_pos h5]
    intro h; exact absurd rfl h
  rw [if_neg h5]
  by_cases h6 : o = 13
  · rw [if_pos h6]
    unfold loadO; split <;> (intro _; rfl)
  rw [if_neg h6]
  by_cases h7 : o = 14
  · rw [if_pos h7]
    unfold loadO; split <;> (intro _; rfl)
  rw [if_neg h7]
  by_cases h8 : o = 15
  · rw [if_pos h8]
    intro _; rfl
  rw [if_neg h8]
  by_cases h9 : o = 16
  · rw [if_pos h9]
    intro _; rfl
  rw [if_neg h9]
  by_cases h10 : o = 17
  · rw [if_pos h10]
    intro h; exact absurd rfl h
  rw [if_neg h10]
  by_cases h11 : o = 18
  · rw [if_pos h11]
    intro h; exact absurd rfl h
  rw [if_neg h11]
  by_cases h12 : o = 19
  · rw [if_pos h12]
    intro h; exact absurd rfl h
  rw [if_neg h12]
  intro h; exact absurd rfl h
def Stays (S : List Fr) (pc : Int) (o : Out) : Prop := o.s.k = 0 → o.pc = pc → o.S = S
theorem stepR_same (S : List Fr) (root : Int) (R : List Int) (pc : Int) : Stays S pc (stepR S root R pc) := by
  unfold stepR
  split
  · intro _ _; rfl
  · rename_i he
    have hfit := fetchR_fits (Decidable.not_not.1 he) (by omega)
    unfold workR
    split
    · intro _ _; rfl
    split
    · intro _ _; rfl
    split
    · rename_i hk
      intro hs _
      dsimp only at hs
      rcases hk with hk | hk <;> omega
    · intro _ h
      refine Classical.byContradiction fun hne => ?_
      have := doR_same _ _ _ _ _ _ _ _ hne
      rw [h] at this
      omega

/-- A program. -/
def runR (root : Int) : Nat → List Fr → List Int → Int → Out × Nat
  | 0, S, R, pc => (⟨R, pc, goesS, S⟩, 0)
  | n + 1, S, R, pc => if (stepR S root R pc).s.k ≠ 0 then (stepR S root R pc, 1) else ((runR root n (stepR S root R pc).S (stepR S root R pc).R (stepR S root R pc).pc).1, (runR root n (stepR S root R pc).S (stepR S root R pc).R (stepR S root R pc).pc).2 + 1)
theorem runR_stuck {root : Int} {S : List Fr} {R : List Int} {pc : Int} (h : stepR S root R pc = ⟨R, pc, goesS, S⟩) : ∀ n, runR root n S R pc = (⟨R, pc, goesS, S⟩, n)
  | 0 => rfl
  | n + 1 => by
    rw [runR, h, if_neg (by simp [goesS]), runR_stuck h n]

end Go.Proofs.YtlbebneblmgdcaaDoor

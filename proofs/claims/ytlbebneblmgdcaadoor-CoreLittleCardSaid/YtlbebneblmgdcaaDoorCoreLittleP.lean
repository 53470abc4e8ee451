/- CoreLittle, plainly: a step changes little. -/
import Derived.Test.YtlbebneblmgdcaaDoorCoreRunP
namespace Go.Proofs.YtlbebneblmgdcaaDoor
open Go.RowKit
set_option maxRecDepth 100000

/-- How many of the first n registers differ. -/
def cntR (R R' : List Int) : Nat → Nat
  | 0 => 0
  | n + 1 => cntR R R' n + if R'.getD n 0 ≠ R.getD n 0 then 1 else 0
/-- How many of a frame's first n bytes differ. -/
def chF (f g : Fr) : Nat → Nat
  | 0 => 0
  | n + 1 => chF f g n + if g.bytes.getD n 0 ≠ f.bytes.getD n 0 then 1 else 0
def chAt (S T : List Fr) (i : Nat) (n : Nat) : Nat := chF (S.getD i freeFr) (T.getD i freeFr) n
/-- How many bytes of the first n frames differ. -/
def chS (S T : List Fr) : Nat → Nat
  | 0 => 0
  | n + 1 => chS S T n + chAt S T n 256

theorem cntR_same (R : List Int) : ∀ n, cntR R R n = 0
  | 0 => rfl
  | n + 1 => by rw [cntR, cntR_same R n, if_neg (fun h => h rfl)]
theorem cntR_set (R : List Int) (a : Nat) (v : Int) : ∀ n, cntR R (R.set a v) n ≤ if a < n then 1 else 0
  | 0 => Nat.zero_le _
  | n + 1 => by
    have ih := cntR_set R a v n
    rw [cntR]
    by_cases h : a = n
    · subst h
      rw [if_neg (Nat.lt_irrefl _)] at ih
      rw [if_pos (Nat.lt_succ_self _)]
      split <;> omega
    · have e : (R.set a v).getD n 0 = R.getD n 0 := by
        rw [List.getD_eq_getElem?_getD, List.getD_eq_getElem?_getD, List.getElem?_set_ne h]
      rw [e, if_neg (fun q => q rfl)]
      split at ih
      · rw [if_pos (by omega)]; omega
      · omega
theorem chF_same (f : Fr) : ∀ n, chF f f n = 0
  | 0 => rfl
  | n + 1 => by rw [chF, chF_same f n, if_neg (fun h => h rfl)]
theorem chF_one {f g g' : Fr} {o : Nat} (h : ∀ k, k ≠ o → g'.bytes.getD k 0 = g.bytes.getD k 0) : ∀ n, chF f g' n ≤ chF f g n + if o < n then 1 else 0
  | 0 => Nat.zero_le _
  | n + 1 => by
    have ih := chF_one (f := f) h n
    rw [chF, chF]
    by_cases hn : n = o
    · subst hn
      rw [if_neg (Nat.lt_irrefl _)] at ih
      rw [if_pos (Nat.lt_succ_self n)]
      have h1 : (if g'.bytes.getD n 0 ≠ f.bytes.getD n 0 then 1 else 0) ≤ 1 := by split <;> omega
      omega
    · rw [h n hn]
      generalize (if g.bytes.getD n 0 ≠ f.bytes.getD n 0 then 1 else 0) = X
      split at ih
      · rw [if_pos (by omega)]; omega
      · omega
theorem chS_same (S : List Fr) : ∀ n, chS S S n = 0
  | 0 => rfl
  | n + 1 => by rw [chS, chS_same S n, chAt, chF_same]
theorem chS_one {S T T' : List Fr} {i : Nat} (h : ∀ k, k ≠ i → T'.getD k freeFr = T.getD k freeFr) (h1 : chAt S T' i 256 ≤ chAt S T i 256 + 1) : ∀ n, chS S T' n ≤ chS S T n + if i < n then 1 else 0
  | 0 => Nat.zero_le _
  | n + 1 => by
    have ih := chS_one h h1 n
    rw [chS, chS]
    by_cases hn : n = i
    · subst hn
      rw [if_neg (Nat.lt_irrefl _)] at ih
      rw [if_pos (Nat.lt_succ_self _)]
      omega
    · have e : chAt S T' n 256 = chAt S T n 256 := by unfold chAt; rw [h n hn]
      rw [e]
      split at ih
      · rw [if_pos (by omega)]; omega
      · omega
theorem splice_getD {L : List Int} {o k : Nat} (x : Int) (hk : k ≠ o) : (splice L o [x]).getD k 0 = L.getD k 0 ∨ L.length ≤ o := by
  by_cases ho : o < L.length
  · left
    unfold splice
    simp only [List.length_cons, List.length_nil]
    rw [List.getD_eq_getElem?_getD, List.getD_eq_getElem?_getD]
    by_cases h1 : k < o
    · rw [List.getElem?_append_left (by simp; omega), List.getElem?_take_of_lt h1]
    · rw [List.getElem?_append_right (by simp; omega)]
      rw [List.length_take, show min o L.length = o by omega, List.getElem?_append_right (by simp; omega)]
      rw [List.getElem?_drop]
      simp only [List.length_cons, List.length_nil]
      rw [show o + (0 + 1) + (k - o - (0 + 1)) = k by omega]
  · exact .inr (by omega)
theorem put1_at {S : List Fr} {p : Int × Int} {x : Int} (k : Nat) (hk : k ≠ p.1.toNat) : (put1 S p x).getD k freeFr = S.getD k freeFr := by
  unfold put1
  split
  · split
    · rfl
    · rw [List.getD_eq_getElem?_getD, List.getD_eq_getElem?_getD, List.getElem?_set_ne (fun e => hk e.symm)]
  · rfl
theorem put1_ch {S T : List Fr} (hT : ∀ f ∈ T, f.bytes.length = 256) {p : Int × Int} (hp : p.2.toNat < 256) (x : Int) (n : Nat) : chS S (put1 T p x) n ≤ chS S T n + 1 := by
  have h1 : chAt S (put1 T p x) p.1.toNat 256 ≤ chAt S T p.1.toNat 256 + 1 := by
    unfold put1
    split
    · rename_i f hf
      split
      · omega
      · unfold chAt
        have e1 : T.getD p.1.toNat freeFr = f := by rw [List.getD_eq_getElem?_getD, hf]; rfl
        have e2 : (T.set p.1.toNat { f with bytes := splice f.bytes p.2.toNat [x] }).getD p.1.toNat freeFr = { f with bytes := splice f.bytes p.2.toNat [x] } := by
          rw [List.getD_eq_getElem?_getD, List.getElem?_set_self (List.getElem?_eq_some_iff.1 hf).1]; rfl
        rw [e1, e2]
        have hl := hT f (List.mem_of_getElem? hf)
        have := chF_one (f := S.getD p.1.toNat freeFr) (g := f) (g' := { f with bytes := splice f.bytes p.2.toNat [x] }) (o := p.2.toNat) (fun k hk => by
          rcases splice_getD (L := f.bytes) x hk with e | e
          · exact e
          · omega) 256
        split at this <;> omega
    · omega
  have := chS_one (S := S) (T := T) (T' := put1 T p x) (i := p.1.toNat) (fun k hk => put1_at k hk) h1 n
  split at this <;> omega
theorem put1_bytes {T : List Fr} (hT : ∀ f ∈ T, f.bytes.length = 256) {p : Int × Int} (hp : p.2.toNat < 256) (x : Int) : ∀ f ∈ put1 T p x, f.bytes.length = 256 := by
  unfold put1
  split
  · rename_i f hf
    split
    · exact hT
    · intro g hg
      rcases List.mem_or_eq_of_mem_set hg with q | rfl
      · exact hT g q
      · have hl := hT f (List.mem_of_getElem? hf)
        show (splice f.bytes p.2.toNat [x]).length = 256
        unfold splice
        simp; omega
  · exact hT
theorem puts_bytes {pl : List (Int × Int)} (hpl : ∀ p ∈ pl, p.2.toNat < 256) (bs : List Int) {S : List Fr} (hS : ∀ f ∈ S, f.bytes.length = 256) : ∀ k, ∀ f ∈ putsTo pl bs S k, f.bytes.length = 256
  | 0 => hS
  | k + 1 => put1_bytes (puts_bytes hpl bs hS k) (by
      rw [List.getD_eq_getElem?_getD]
      cases h : pl[k]? with
      | none => simp
      | some p => exact hpl p (List.mem_of_getElem? h)) _
theorem puts_ch {pl : List (Int × Int)} (hpl : ∀ p ∈ pl, p.2.toNat < 256) (bs : List Int) {S : List Fr} (hS : ∀ f ∈ S, f.bytes.length = 256) (n : Nat) : ∀ k, chS S (putsTo pl bs S k) n ≤ k
  | 0 => by rw [putsTo, chS_same]; exact Nat.le_refl _
  | k + 1 => by
    have ih := puts_ch hpl bs hS n k
    have := put1_ch (S := S) (puts_bytes hpl bs hS k) (p := pl.getD k (0, 0)) (by
      rw [List.getD_eq_getElem?_getD]
      cases h : pl[k]? with
      | none => simp
      | some p => exact hpl p (List.mem_of_getElem? h)) (bs.getD k 0) n
    rw [putsTo]
    omega
theorem puts_at {pl : List (Int × Int)} {bs : List Int} {S : List Fr} {i : Nat} : ∀ k, k ≤ pl.length → (putsTo pl bs S k).getD i freeFr ≠ S.getD i freeFr → ∃ j p, j < k ∧ pl[j]? = some p ∧ p.1.toNat = i
  | 0, _, h => absurd rfl h
  | k + 1, hk, h => by
    by_cases hi : i = (pl.getD k (0, 0)).1.toNat
    · have hlt : k < pl.length := by omega
      refine ⟨k, pl[k], Nat.lt_succ_self _, List.getElem?_eq_getElem hlt, ?_⟩
      rw [List.getD_eq_getElem?_getD, List.getElem?_eq_getElem hlt] at hi
      exact hi.symm
    · rw [putsTo, put1_at i hi] at h
      obtain ⟨j, p, hj, e⟩ := puts_at k (by omega) h
      exact ⟨j, p, by omega, e⟩

/-- Some address of the tables lets a frame be written. -/
def CanWrite (S : List Fr) (i : Nat) : Prop := ∃ l2 l1 : Nat, l2 < 64 ∧ l1 < 64 ∧ (walkR S 0 (((l2 : Int) * 64 + l1) * 256) true).2.2 = 0 ∧ (walkR S 0 (((l2 : Int) * 64 + l1) * 256) true).1 = i
theorem can_of {S : List Fr} {va : Int} (h0 : 0 ≤ va) (h1 : va < 1048576) (he : (walkR S 0 va true).2.2 = 0) {i : Nat} (hi : (walkR S 0 va true).1 = i) : CanWrite S i := by
  refine ⟨(va / 16384).toNat, (va / 256 % 64).toNat, by omega, by omega, ?_⟩
  have e : (((va / 16384).toNat : Int) * 64 + (va / 256 % 64).toNat) * 256 = va / 256 * 256 := by omega
  rw [e]
  have := walk_page (S := S) (root := 0) (a := va) (b := va / 256 * 256) (wr := true) h1 (by omega) (by omega)
  exact ⟨this.1.trans he, this.2.1.trans hi⟩

/-- What a step does to memory: nothing, or a store of at most four bytes. -/
def MemLittle (S S' : List Fr) : Prop := chS S S' 6 ≤ 4 ∧ ∀ i, S'.getD i freeFr ≠ S.getD i freeFr → CanWrite S i
theorem mem_same (S : List Fr) : MemLittle S S := ⟨by rw [chS_same]; omega, fun i h => absurd rfl h⟩
theorem store_little {S : List Fr} (hS : okS S) {va : Int} (h0 : 0 ≤ va) {bs : List Int} (hb : bs.length ≤ 4) : MemLittle S (storeR S 0 va bs).2 := by
  unfold storeR
  split
  · exact mem_same S
  · rename_i hr
    split
    · rename_i he
      have hpl : ∀ p ∈ plcs S 0 va true bs.length, p.2.toNat < 256 := fun p hp => by have := plcs_in hS he p hp; have := this.2; omega
      refine ⟨Nat.le_trans (puts_ch hpl bs (fun f hf => (hS f hf).1) 6 bs.length) hb, fun i hi => ?_⟩
      obtain ⟨j, p, hj, hp, hpi⟩ := puts_at _ (by rw [plcs_len]; exact Nat.le_refl _) hi
      rw [plcs_at hj] at hp
      obtain rfl := Option.some.inj hp
      have hw := errTo_ok he j hj
      have hok := walkR_ok hS hw
      exact can_of (va := va + j) (by omega) (by omega) hw (by have := hok.1.1; show (plc S 0 va true j).1 = i; have e : (plc S 0 va true j).1 = (walkR S 0 (va + j) true).1 := rfl; omega)
    · exact mem_same S
theorem store_err {S : List Fr} {va : Int} {bs : List Int} (h : (storeR S 0 va bs).1 ≠ 0) : (storeR S 0 va bs).2 = S := by
  revert h
  unfold storeR
  split
  · intro _; rfl
  · split
    · intro h; exact absurd rfl h
    · intro _; rfl

structure Little (S : List Fr) (R : List Int) (pc : Int) (o : Out) : Prop where
  regs : o.R = R ∨ (∃ a v, o.R = R.set a v) ∧ o.S = S ∧ o.s.k = 0
  mem : MemLittle S o.S
  kind : 0 ≤ o.s.k ∧ o.s.k ≤ 3
  stay : o.s.k = 1 ∨ o.s.k = 3 → o.R = R ∧ o.S = S
theorem Little.one {S : List Fr} {R : List Int} {pc : Int} {o : Out} (h : Little S R pc o) : cntR R o.R 8 ≤ 1 := by
  rcases h.regs with e | ⟨⟨a, v, e⟩, _⟩
  · rw [e, cntR_same]; omega
  · rw [e]
    have := cntR_set R a v 8
    split at this <;> omega
theorem doR_little {S : List Fr} (hS : okS S) (R : List Int) (pc o a b c : Int) : Little S R pc (doR S 0 R pc o a b c) := by
  have plain : ∀ (R' : List Int) (pc' : Int), R' = R ∨ (∃ a v, R' = R.set a v) → Little S R pc ⟨R', pc', goesS, S⟩ := fun R' pc' h => ⟨h.imp id (fun q => ⟨q, rfl, rfl⟩), mem_same S, by simp [goesS], fun q => by rcases q with q | q <;> simp [goesS] at q⟩
  have loadL : ∀ (a b : Nat) (c k : Int), Little S R pc (loadO S 0 R pc a b c k) := fun a b c k => by
    unfold loadO
    split
    · exact plain _ _ (.inr ⟨_, _, rfl⟩)
    · exact ⟨.inl rfl, mem_same S, by simp [faultS], fun _ => ⟨rfl, rfl⟩⟩
  have storeL : ∀ (a b : Nat) (c : Int) (k : Nat), Little S R pc (storeO S 0 R pc a b c k) := fun a b c k => by
    unfold storeO
    have hm := store_little hS (va := memAt R b c) (by unfold memAt; omega) (bs := (fourR (R.getD a 0)).take k) (by simp [fourR]; omega)
    by_cases he : (storeR S 0 (memAt R b c) ((fourR (R.getD a 0)).take k)).1 = 0
    · rw [if_pos he]
      exact ⟨.inl rfl, hm, by simp [goesS], fun q => by rcases q with q | q <;> simp [goesS] at q⟩
    · rw [if_neg he]
      exact ⟨.inl rfl, hm, by simp [faultS], fun _ => ⟨rfl, store_err he⟩⟩
  unfold doR
  by_cases h1 : o = 0
  · rw [if_pos h1]
    exact ⟨.inl rfl, mem_same S, by simp [haltS], fun _ => ⟨rfl, rfl⟩⟩
  rw [if_neg h1]
  by_cases h2 : o = 1
  · rw [if_pos h2]
    exact plain _ _ (.inr ⟨_, _, rfl⟩)
  rw [if_neg h2]
  by_cases h3 : o = 2
  · rw [if_pos h3]
    exact plain _ _ (.inr ⟨_, _, rfl⟩)
  rw [if_neg h3]
  by_cases h4 : o = 3
  · rw [if_pos h4]
    exact plain _ _ (.inr ⟨_, _, rfl⟩)
  rw [if_neg h4]
  by_cases h5 : o ≤ 12
  · rw [if_pos h5]
    exact plain _ _ (.inr ⟨_, _, rfl⟩)
  rw [if_neg h5]
  by_cases h6 : o = 13
  · rw [if_pos h6]
    exact loadL _ _ _ _
  rw [if_neg h6]
  by_cases h7 : o = 14
  · rw [if_pos h7]
    exact loadL _ _ _ _
  rw [if_neg h7]
  by_cases h8 : o = 15
  · rw [if_pos h8]
    exact storeL _ _ _ _
  rw [if_neg h8]
  by_cases h9 : o = 16
  · rw [if_pos h9]
    exact storeL _ _ _ _
  rw [if_neg h9]
  by_cases h10 : o = 17
  · rw [if_pos h10]
    exact plain _ _ (.inl rfl)
  rw [if_neg h10]
  by_cases h11 : o = 18
  · rw [if_pos h11]
    exact plain _ _ (.inl rfl)
  rw [if_neg h11]
  by_cases h12 : o = 19
  · rw [if_pos h12]
    exact plain _ _ (.inl rfl)
  rw [if_neg h12]
  exact ⟨.inl rfl, mem_same S, by simp, fun q => by rcases q with q | q <;> simp at q⟩
/-- With a fault, or a halt, nothing changes at all. -/
def Still (S : List Fr) (R : List Int) (pc : Int) (o : Out) : Prop := o.s.k = 1 ∨ o.s.k = 3 → o.R = R ∧ o.pc = pc ∧ o.S = S
theorem step_little {S : List Fr} (hS : okS S) (R : List Int) (pc : Int) : Little S R pc (stepR S 0 R pc) ∧ Still S R pc (stepR S 0 R pc) := by
  have flt : ∀ e, Little S R pc ⟨R, pc, faultS e, S⟩ ∧ Still S R pc ⟨R, pc, faultS e, S⟩ := fun e => ⟨⟨.inl rfl, mem_same S, by simp [faultS], fun _ => ⟨rfl, rfl⟩⟩, fun _ => ⟨rfl, rfl, rfl⟩⟩
  unfold stepR
  split
  · exact flt _
  · generalize (fetchR S 0 pc 4).2.getD 0 0 = o
    generalize (fetchR S 0 pc 4).2.getD 1 0 = a
    generalize (fetchR S 0 pc 4).2.getD 2 0 = b
    generalize (fetchR S 0 pc 4).2.getD 3 0 = c
    unfold workR
    split
    · exact flt _
    split
    · exact flt _
    have hd := doR_little hS R ((pc + 4) % 1048576) o a b c
    generalize doR S 0 R ((pc + 4) % 1048576) o a b c = d at hd
    split
    · rename_i hk
      have hst := hd.stay (by rcases hk with q | q; exact .inr q; exact .inl q)
      exact ⟨⟨.inl rfl, hd.mem, hd.kind, fun _ => ⟨rfl, hst.2⟩⟩, fun _ => ⟨rfl, rfl, hst.2⟩⟩
    · rename_i hk
      exact ⟨⟨hd.regs, hd.mem, hd.kind, hd.stay⟩, fun q => absurd (by rcases q with q | q; exact .inr q; exact .inl q) hk⟩

end Go.Proofs.YtlbebneblmgdcaaDoor

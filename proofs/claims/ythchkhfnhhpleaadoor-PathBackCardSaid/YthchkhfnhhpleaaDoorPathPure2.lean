/- Names put together, permissions as text, plainly. -/
import Derived.Test.YthchkhfnhhpleaaDoorPathPure
namespace Go.Proofs.YthchkhfnhhpleaaDoor

/-- The first name that is none: its error. -/
def badName : List (List UInt8) → Nat
  | [] => 0
  | n :: l => if (nameR n).2 = 0 then badName l else (nameR n).2

def joinR (l : List (List UInt8)) : List UInt8 × Nat :=
  if 8 < l.length then ([], 2) else if badName l = 0 then (if 256 < (pathText l).length then ([], 2) else (pathText l, 0)) else ([], badName l)

theorem badName_named : ∀ (l : List (List UInt8)), (∀ p ∈ l, Named p) → badName l = 0
  | [], _ => rfl
  | n :: l, h => by
    unfold badName
    rw [nameR_named (h n (by simp)), if_pos rfl]
    exact badName_named l (fun p hp => h p (by simp [hp]))
theorem named_badName : ∀ (l : List (List UInt8)), badName l = 0 → ∀ p ∈ l, Named p
  | [], _, p, hp => by simp at hp
  | n :: l, h, p, hp => by
    unfold badName at h
    split at h
    · rename_i hn
      rcases List.mem_cons.1 hp with e | e
      · rw [e]; exact nameR_ok hn
      · exact named_badName l h p e
    · rename_i hn; exact absurd h hn

/-- A path that can be parsed comes back. -/
theorem join_parse {s : List UInt8} (h : (parseR s).2.2 = 0) : joinR (parseR s).1 = (s, 0) := by
  obtain ⟨h1, h2, h3, h4, _⟩ := parse_ok h
  unfold joinR
  rw [if_neg (by omega), badName_named _ h2, if_pos rfl, ← h1, if_neg (by omega)]

/-- Texts with a mark between them. -/
def joinWith (c : UInt8) : List (List UInt8) → List UInt8
  | [] => []
  | [a] => a
  | a :: b :: l => a ++ c :: joinWith c (b :: l)

theorem joinWith_path : ∀ (l : List (List UInt8)), 47 :: joinWith 47 l = pathText l
  | [] => rfl
  | [a] => by simp [joinWith, pathText, strokes]
  | a :: b :: l => by
    have ih := joinWith_path (b :: l)
    simp only [pathText, reduceCtorEq, if_false] at ih ⊢
    rw [joinWith, strokes_cons, ← ih]

/-- A permission: the domain, may it read, may it write. -/
structure Pm where
  dom : Int
  read : Bool
  write : Bool

def Pm.letter (p : Pm) : UInt8 := if p.read then (if p.write then 98 else 114) else (if p.write then 119 else 110)
def Pm.text (p : Pm) : List UInt8 := [p.letter, UInt8.ofNat (48 + p.dom.toNat)]
def namedP (l : List Pm) (d : Int) : Bool := l.any fun p => p.dom == d

/-- All good: each domain 0 to 7, none twice. -/
def goodP : List Pm → List Pm → Bool
  | _, [] => true
  | acc, p :: l => decide (0 ≤ p.dom ∧ p.dom < 8) && (!namedP acc p.dom && goodP (acc ++ [p]) l)

def textR (l : List Pm) : List UInt8 × Nat :=
  if l = [] ∨ 8 < l.length then ([], 1) else if goodP [] l = true then (joinWith 44 (l.map Pm.text), 0) else ([], 1)

/-- What a letter says: may read, may write. -/
def flagP (c : UInt8) : Option (Bool × Bool) := if c = 110 then some (false, false) else if c = 114 then some (true, false) else if c = 119 then some (false, true) else if c = 98 then some (true, true) else none

/-- The permissions of a text: from one permission's begin on. -/
def permGo : List UInt8 → Nat → List Pm → List Pm × Nat × Nat
  | [], a, acc => if acc.length = 8 then ([], a, 2) else ([], a, 90)
  | c :: l, a, acc => if acc.length = 8 then ([], a, 2) else match flagP c with
    | none => ([], a, 90)
    | some (r, w) => match l with
      | [] => ([], a + 1, 90)
      | d :: l => if 48 ≤ d.toNat ∧ d.toNat < 56 then (if namedP acc ((d.toNat : Int) - 48) = true then ([], a, 8) else match l with
          | [] => (acc ++ [⟨(d.toNat : Int) - 48, r, w⟩], 0, 0)
          | e :: l => if e = 44 then permGo l (a + 3) (acc ++ [⟨(d.toNat : Int) - 48, r, w⟩]) else ([], a + 2, 90)) else ([], a + 1, 90)
def permR (s : List UInt8) : List Pm × Nat × Nat := permGo s 0 []

theorem flag_letter {c : UInt8} {r w : Bool} (h : flagP c = some (r, w)) (d : Int) : (Pm.mk d r w).letter = c := by
  unfold flagP at h
  split at h
  · cases h; simp [Pm.letter, *]
  · split at h
    · cases h; simp [Pm.letter, *]
    · split at h
      · cases h; simp [Pm.letter, *]
      · split at h
        · cases h; simp [Pm.letter, *]
        · cases h

theorem goodP_app : ∀ (l acc : List Pm) (p : Pm), goodP acc l = true → 0 ≤ p.dom ∧ p.dom < 8 → namedP (acc ++ l) p.dom = false → goodP acc (l ++ [p]) = true
  | [], acc, p, _, hd, hn => by
    rw [List.append_nil] at hn
    simp only [List.nil_append, goodP, hn, Bool.not_false, Bool.and_true]
    exact decide_eq_true hd
  | q :: l, acc, p, h, hd, hn => by
    simp only [goodP, Bool.and_eq_true] at h
    simp only [List.cons_append, goodP, Bool.and_eq_true]
    refine ⟨h.1, h.2.1, goodP_app l (acc ++ [q]) p h.2.2 hd ?_⟩
    rw [List.append_assoc]; exact hn

theorem digit_text {d : UInt8} (h : 48 ≤ d.toNat ∧ d.toNat < 56) (r w : Bool) (c : UInt8) (hc : (Pm.mk ((d.toNat : Int) - 48) r w).letter = c) : (Pm.mk ((d.toNat : Int) - 48) r w).text = [c, d] := by
  simp only [Pm.text, hc]
  congr 2
  have : 48 + ((d.toNat : Int) - 48).toNat = d.toNat := by omega
  rw [this]; simp

theorem joinWith_snoc (c : UInt8) (a : List UInt8) : ∀ (l : List (List UInt8)), l ≠ [] → joinWith c (l ++ [a]) = joinWith c l ++ c :: a
  | [], h => absurd rfl h
  | [x], _ => rfl
  | x :: y :: l, _ => by
    have ih := joinWith_snoc c a (y :: l) (by simp)
    simp only [List.cons_append, joinWith] at ih ⊢
    rw [ih]; simp

/-- What could be read comes back: the text of what there is, then the rest. -/
theorem perm_back (n : Nat) : ∀ (s : List UInt8) (a : Nat) (acc : List Pm), s.length ≤ n → acc.length ≤ 8 → goodP [] acc = true → (permGo s a acc).2.2 = 0 →
    ∃ l, (permGo s a acc).1 = acc ++ l ∧ l ≠ [] ∧ (acc ++ l).length ≤ 8 ∧ goodP [] (acc ++ l) = true ∧ joinWith 44 (l.map Pm.text) = s := by
  induction n with
  | zero =>
    intro s a acc hs _ _ h
    obtain rfl := List.eq_nil_of_length_eq_zero (Nat.le_zero.1 hs)
    unfold permGo at h
    split at h <;> simp at h
  | succ n ih =>
    intro s a acc hs hl hg
    unfold permGo
    split
    · split <;> (intro h; simp at h)
    · rename_i c l
      split
      · intro h; simp at h
      · rename_i h8
        split
        · intro h; simp at h
        · rename_i r w hf
          split
          · intro h; simp at h
          · rename_i d l
            split
            · rename_i hd
              split
              · intro h; simp at h
              · rename_i hnm
                have hnm' : namedP acc ((d.toNat : Int) - 48) = false := by simpa using hnm
                have ht := digit_text hd r w c (flag_letter hf _)
                have hg' := goodP_app acc [] ⟨(d.toNat : Int) - 48, r, w⟩ hg (by simp only; omega) hnm'
                split
                · intro _
                  exact ⟨[⟨(d.toNat : Int) - 48, r, w⟩], rfl, by simp, by simp; omega, hg', by simpa [joinWith] using ht⟩
                · rename_i e l
                  split
                  · rename_i he
                    intro h
                    simp only [List.length_cons] at hs
                    obtain ⟨l2, h1, h2, h3, h4, h5⟩ := ih l (a + 3) (acc ++ [⟨(d.toNat : Int) - 48, r, w⟩]) (by omega) (by simp; omega) hg' h
                    refine ⟨⟨(d.toNat : Int) - 48, r, w⟩ :: l2, by rw [h1]; simp, by simp, by simpa using h3, by simpa using h4, ?_⟩
                    cases l2 with
                    | nil => exact absurd rfl h2
                    | cons x l3 => simp only [List.map_cons] at h5; rw [List.map_cons, List.map_cons, joinWith, h5, ht, he]; rfl
                  · intro h; simp at h
            · intro h; simp at h

theorem text_perm {s : List UInt8} (h : (permR s).2.2 = 0) : textR (permR s).1 = (s, 0) := by
  obtain ⟨l, h1, h2, h3, h4, h5⟩ := perm_back s.length s 0 [] (Nat.le_refl _) (by simp) rfl h
  rw [List.nil_append] at h1 h3 h4
  unfold permR
  rw [h1]
  unfold textR
  rw [if_neg (fun q => by rcases q with q | q; exact h2 q; omega), if_pos h4, h5]

end Go.Proofs.YthchkhfnhhpleaaDoor

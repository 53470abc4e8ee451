/- Names and paths, plainly: lists of bytes. -/
namespace Go.Proofs.YthchkhfnhhpleaaDoor

/-- May a letter of this number stand in a name? -/
def letN (n : Nat) : Bool := decide ((97 ≤ n ∧ n ≤ 122) ∨ (65 ≤ n ∧ n ≤ 90) ∨ (48 ≤ n ∧ n ≤ 57) ∨ n = 45 ∨ n = 95 ∨ n = 46 ∨ n = 64)

theorem letN_lt {n : Nat} (h : letN n = true) : n < 128 ∧ n ≠ 47 := by
  have := of_decide_eq_true h; omega

def nameScan : Nat → List UInt8 → Nat × Nat
  | _, [] => (0, 0)
  | i, c :: l => if letN c.toNat = true then (if i = 32 then (i, 2) else nameScan (i + 1) l) else (i, 90)
def nameR (l : List UInt8) : Nat × Nat := if l = [] then (0, 90) else nameScan 0 l

def AllLet (l : List UInt8) : Prop := ∀ c ∈ l, letN c.toNat = true
def Named (l : List UInt8) : Prop := l ≠ [] ∧ l.length ≤ 32 ∧ AllLet l

theorem scan_let : ∀ (l : List UInt8) (i : Nat), AllLet l → i + l.length ≤ 32 → nameScan i l = (0, 0)
  | [], _, _, _ => rfl
  | c :: l, i, h, hi => by
    simp only [List.length_cons] at hi
    unfold nameScan
    rw [if_pos (h c (by simp)), if_neg (show i ≠ 32 by omega)]
    exact scan_let l (i + 1) (fun d hd => h d (by simp [hd])) (by omega)

theorem scan_app : ∀ (p l : List UInt8) (i : Nat), AllLet p → i + p.length ≤ 32 → nameScan i (p ++ l) = nameScan (i + p.length) l
  | [], _, _, _, _ => rfl
  | c :: p, l, i, h, hi => by
    simp only [List.length_cons] at hi
    rw [List.cons_append, nameScan, if_pos (h c (by simp)), if_neg (show i ≠ 32 by omega), scan_app p l (i + 1) (fun d hd => h d (by simp [hd])) (by omega)]
    congr 1
    simp only [List.length_cons]; omega

theorem scan_ok : ∀ (l : List UInt8) (i : Nat), i ≤ 32 → (nameScan i l).2 = 0 → AllLet l ∧ i + l.length ≤ 32
  | [], i, hi, _ => ⟨fun c hc => by simp at hc, by simpa using hi⟩
  | c :: l, i, hi, h => by
    unfold nameScan at h
    split at h
    · rename_i hc
      split at h
      · simp at h
      · obtain ⟨h1, h2⟩ := scan_ok l (i + 1) (by omega) h
        refine ⟨fun d hd => ?_, by simp only [List.length_cons]; omega⟩
        rcases List.mem_cons.1 hd with e | e
        · rw [e]; exact hc
        · exact h1 d e
    · simp at h

theorem nameR_ok {l : List UInt8} (h : (nameR l).2 = 0) : Named l := by
  unfold nameR at h
  split at h
  · simp at h
  · rename_i hne
    obtain ⟨h1, h2⟩ := scan_ok l 0 (by omega) h
    exact ⟨hne, by omega, h1⟩
theorem nameR_named {l : List UInt8} (h : Named l) : nameR l = (0, 0) := by
  unfold nameR
  rw [if_neg h.1]
  exact scan_let l 0 h.2.2 (by have := h.2.1; omega)

/-- The parts between the strokes. -/
def parts : List UInt8 → List (List UInt8)
  | [] => [[]]
  | c :: l => if c = 47 then [] :: parts l else match parts l with | p :: r => (c :: p) :: r | [] => [[c]]

def consHead (cur : List UInt8) : List (List UInt8) → List (List UInt8)
  | [] => [cur]
  | p :: r => (cur ++ p) :: r

theorem parts_ne : ∀ (l : List UInt8), parts l ≠ []
  | [] => by simp [parts]
  | c :: l => by
    unfold parts
    split
    · simp
    · split <;> simp

theorem consHead_nil {l : List (List UInt8)} (h : l ≠ []) : consHead [] l = l := by
  cases l with
  | nil => exact absurd rfl h
  | cons p r => rfl

theorem consHead_parts (cur : List UInt8) (c : UInt8) (l : List UInt8) (hc : c ≠ 47) : consHead cur (parts (c :: l)) = consHead (cur ++ [c]) (parts l) := by
  rw [parts, if_neg hc]
  cases h : parts l with
  | nil => exact absurd h (parts_ne l)
  | cons p r => simp [consHead]

/-- A list without a stroke is one part. -/
theorem parts_one (l : List UInt8) (h : ∀ c ∈ l, c ≠ 47) : parts l = [l] := by
  induction l with
  | nil => rfl
  | cons c l ih => rw [parts, if_neg (h c (by simp)), ih (fun d hd => h d (by simp [hd]))]
theorem parts_app (p l : List UInt8) (h : ∀ c ∈ p, c ≠ 47) : parts (p ++ 47 :: l) = p :: parts l := by
  induction p with
  | nil => simp [parts]
  | cons c p ih => rw [List.cons_append, parts, if_neg (h c (by simp)), ih (fun d hd => h d (by simp [hd]))]

/-- What the code finds: none where all parts are names. -/
def parseGo : List (List UInt8) → Nat → Nat → Option (Nat × Nat)
  | [], _, _ => none
  | p :: r, at_, k => if k = 8 then some (at_, 2) else if (nameR p).2 = 0 then parseGo r (at_ + p.length + 1) (k + 1) else some (at_ + (nameR p).1, (nameR p).2)

/-- What the document finds, byte by byte. -/
def refGo : List UInt8 → Nat → Nat → Nat → Option (Nat × Nat)
  | [], i, fr, k => if i = fr then (if k = 8 then some (i, 2) else some (i, 90)) else none
  | c :: l, i, fr, k =>
    if c = 47 then (if i = fr then (if k = 8 then some (i, 2) else some (i, 90)) else refGo l (i + 1) (i + 1) (k + 1))
    else if i = fr ∧ k = 8 then some (i, 2) else if letN c.toNat = true then (if i - fr = 32 then some (i, 2) else refGo l (i + 1) fr k) else some (i, 90)

theorem let_ne {c : UInt8} (h : letN c.toNat = true) : c ≠ 47 := by
  intro e; subst e; exact absurd h (by decide)
theorem let_not {c : UInt8} (h : c = 47) : letN c.toNat = false := by subst h; decide

theorem refGo_eq : ∀ (l cur : List UInt8) (i fr k : Nat), AllLet cur → i = fr + cur.length → cur.length ≤ 32 → (cur ≠ [] → k ≠ 8) → refGo l i fr k = parseGo (consHead cur (parts l)) fr k
  | [], cur, i, fr, k, ha, hi, hl, hk => by
    simp only [parts, consHead, List.append_nil, parseGo, refGo]
    by_cases hc : cur = []
    · subst hc
      simp only [List.length_nil, Nat.add_zero] at hi
      subst hi
      rw [if_pos rfl]
      by_cases h8 : k = 8
      · rw [if_pos h8, if_pos h8]
      · rw [if_neg h8, if_neg h8]; simp [nameR]
    · have h0 : cur.length ≠ 0 := fun e => hc (List.eq_nil_of_length_eq_zero e)
      rw [if_neg (show i ≠ fr by omega), if_neg (hk hc), nameR_named ⟨hc, hl, ha⟩]; rfl
  | c :: l, cur, i, fr, k, ha, hi, hl, hk => by
    by_cases h47 : c = 47
    · rw [refGo, if_pos h47, parts, if_pos h47]
      simp only [consHead, List.append_nil, parseGo]
      by_cases hc : cur = []
      · subst hc
        simp only [List.length_nil, Nat.add_zero] at hi
        subst hi
        rw [if_pos rfl]
        by_cases h8 : k = 8
        · rw [if_pos h8, if_pos h8]
        · rw [if_neg h8, if_neg h8]; simp [nameR]
      · have h0 : cur.length ≠ 0 := fun e => hc (List.eq_nil_of_length_eq_zero e)
        rw [if_neg (show i ≠ fr by omega), if_neg (hk hc), nameR_named ⟨hc, hl, ha⟩]
        simp only [if_true]
        rw [refGo_eq l [] (i + 1) (i + 1) (k + 1) (fun c hc => by simp at hc) (by simp) (by simp) (fun h => absurd rfl h), consHead_nil (parts_ne l), show fr + cur.length + 1 = i + 1 by omega]
    · rw [refGo, if_neg h47, consHead_parts cur c l h47]
      by_cases h1 : i = fr ∧ k = 8
      · rw [if_pos h1]
        cases hp : parts l with
        | nil => exact absurd hp (parts_ne l)
        | cons p r => simp only [consHead, parseGo]; rw [if_pos h1.2, h1.1]
      · rw [if_neg h1]
        have hk8 : k ≠ 8 := by
          intro e
          by_cases hc : cur = []
          · subst hc; exact h1 ⟨by simpa using hi, e⟩
          · exact hk hc e
        by_cases h2 : letN c.toNat = true
        · rw [if_pos h2]
          by_cases h3 : i - fr = 32
          · rw [if_pos h3]
            cases hp : parts l with
            | nil => exact absurd hp (parts_ne l)
            | cons p r =>
              have e : nameR (cur ++ [c] ++ p) = (32, 2) := by
                unfold nameR
                rw [if_neg (by simp), List.append_assoc, scan_app cur _ 0 ha (by omega)]
                simp only [List.singleton_append, nameScan]
                rw [if_pos h2, if_pos (show 0 + cur.length = 32 by omega)]
                congr 1; omega
              simp only [consHead, parseGo]
              rw [if_neg hk8, e, if_neg (by decide)]
              congr 2
              simp only; omega
          · rw [if_neg h3]
            refine refGo_eq l (cur ++ [c]) (i + 1) fr k ?_ (by simp; omega) (by simp; omega) (fun _ => hk8)
            intro d hd
            rcases List.mem_append.1 hd with e | e
            · exact ha d e
            · rw [List.mem_singleton.1 e]; exact h2
        · rw [if_neg h2]
          cases hp : parts l with
          | nil => exact absurd hp (parts_ne l)
          | cons p r =>
            have e : nameR (cur ++ [c] ++ p) = (cur.length, 90) := by
              unfold nameR
              rw [if_neg (by simp), List.append_assoc, scan_app cur _ 0 ha (by omega)]
              simp only [List.singleton_append, nameScan]
              rw [if_neg h2, Nat.zero_add]
            simp only [consHead, parseGo]
            rw [if_neg hk8, e, if_neg (show ¬ ((90 : Nat) = 0) by decide), hi]

/-- A path: its names, the place, the error. -/
def parseR (s : List UInt8) : List (List UInt8) × Nat × Nat :=
  if 256 < s.length then ([], 0, 2) else match s with
    | [] => ([], 0, 90)
    | c :: l => if c = 47 then (if l = [] then ([], 0, 0) else match parseGo (parts l) 1 0 with | none => (parts l, 0, 0) | some (a, e) => ([], a, e)) else ([], 0, 90)

theorem parseGo_none : ∀ (ps : List (List UInt8)) (a k : Nat), k ≤ 8 → parseGo ps a k = none → (∀ p ∈ ps, Named p) ∧ k + ps.length ≤ 8
  | [], _, _, hk, _ => ⟨fun p hp => by simp at hp, by simpa using hk⟩
  | p :: r, a, k, hk, h => by
    unfold parseGo at h
    split at h
    · cases h
    · split at h
      · rename_i h8 hn
        obtain ⟨h1, h2⟩ := parseGo_none r _ _ (by omega) h
        refine ⟨fun q hq => ?_, by simp only [List.length_cons]; omega⟩
        rcases List.mem_cons.1 hq with e | e
        · rw [e]; exact nameR_ok hn
        · exact h1 q e
      · cases h
theorem parseGo_err : ∀ (ps : List (List UInt8)) (a k x e : Nat), parseGo ps a k = some (x, e) → e ≠ 0
  | [], _, _, _, _, h => by cases h
  | p :: r, a, k, x, e, h => by
    unfold parseGo at h
    split at h
    · cases h; decide
    · split at h
      · exact parseGo_err r _ _ _ _ h
      · rename_i hn
        cases h; exact hn

/-- Names, each behind a stroke. -/
def strokes (l : List (List UInt8)) : List UInt8 := l.flatMap fun n => 47 :: n
theorem strokes_cons (n : List UInt8) (l : List (List UInt8)) : strokes (n :: l) = 47 :: (n ++ strokes l) := by simp [strokes]
/-- The path of names. -/
def pathText (l : List (List UInt8)) : List UInt8 := if l = [] then [47] else strokes l

theorem strokes_parts : ∀ (l : List UInt8), strokes (parts l) = 47 :: l
  | [] => rfl
  | c :: l => by
    have ih := strokes_parts l
    unfold parts
    split
    · rename_i h; rw [strokes_cons, ih, h]; rfl
    · cases hp : parts l with
      | nil => exact absurd hp (parts_ne l)
      | cons p r =>
        rw [hp, strokes_cons] at ih
        simp only
        rw [strokes_cons]
        have := List.cons.inj ih
        rw [List.cons_append, this.2]

theorem parts_strokes : ∀ (n : List UInt8) (l : List (List UInt8)), (∀ p ∈ n :: l, AllLet p) → parts (n ++ strokes l) = n :: l
  | n, [], h => by
    simp only [strokes, List.flatMap_nil, List.append_nil]
    exact parts_one n (fun c hc => let_ne (h n (by simp) c hc))
  | n, m :: l, h => by
    rw [strokes_cons, parts_app n _ (fun c hc => let_ne (h n (by simp) c hc)), parts_strokes m l (fun p hp => h p (List.mem_cons_of_mem _ hp))]

/-- A path that can be parsed is its names' path. -/
theorem parse_ok {s : List UInt8} (h : (parseR s).2.2 = 0) : s = pathText (parseR s).1 ∧ (∀ p ∈ (parseR s).1, Named p) ∧ (parseR s).1.length ≤ 8 ∧ s.length ≤ 256 ∧ (parseR s).2.1 = 0 := by
  revert h
  unfold parseR
  split
  · intro h; simp at h
  · rename_i hlen
    cases s with
    | nil => intro h; simp at h
    | cons c l =>
      simp only
      split
      · rename_i hc
        split
        · rename_i hl
          intro _
          exact ⟨by rw [hc, hl]; rfl, by simp, by simp, by omega, rfl⟩
        · rename_i hl
          cases hp : parseGo (parts l) 1 0 with
          | none =>
            intro _
            obtain ⟨h1, h2⟩ := parseGo_none (parts l) 1 0 (by omega) hp
            refine ⟨?_, h1, by simpa using h2, by omega, rfl⟩
            simp only [pathText]
            rw [if_neg (parts_ne l), strokes_parts, hc]
          | some x =>
            obtain ⟨x, e⟩ := x
            intro h
            exact absurd h (parseGo_err _ _ _ _ _ hp)
      · intro h; simp at h

/-- Is the second one under the first one? By names. -/
def isPre : List (List UInt8) → List (List UInt8) → Bool
  | [], _ => true
  | _ :: _, [] => false
  | x :: xs, y :: ys => x == y && isPre xs ys

def underR (a b : List UInt8) : Bool := decide ((parseR a).2.2 = 0) && (decide ((parseR b).2.2 = 0) && isPre (parseR a).1 (parseR b).1)

theorem isPre_refl : ∀ l, isPre l l = true
  | [] => rfl
  | x :: l => by simp [isPre, isPre_refl l]
theorem isPre_trans : ∀ a b c, isPre a b = true → isPre b c = true → isPre a c = true
  | [], _, _, _, _ => rfl
  | x :: a, [], _, h, _ => by simp [isPre] at h
  | x :: a, y :: b, [], _, h => by simp [isPre] at h
  | x :: a, y :: b, z :: c, h, k => by
    simp only [isPre, Bool.and_eq_true, beq_iff_eq] at h k ⊢
    exact ⟨h.1.trans k.1, isPre_trans a b c h.2 k.2⟩
theorem isPre_anti : ∀ a b, isPre a b = true → isPre b a = true → a = b
  | [], [], _, _ => rfl
  | [], _ :: _, _, h => by simp [isPre] at h
  | _ :: _, [], h, _ => by simp [isPre] at h
  | x :: a, y :: b, h, k => by
    simp only [isPre, Bool.and_eq_true, beq_iff_eq] at h k
    rw [h.1, isPre_anti a b h.2 k.2]

/-- By texts: what is left behind the first one's names begins with a stroke, or is nothing. -/
def edge (l : List UInt8) : Bool := match l with | [] => true | c :: _ => c == 47

theorem edge_strokes (l : List (List UInt8)) : edge (strokes l) = true := by
  cases l with
  | nil => rfl
  | cons n l => rw [strokes_cons]; rfl

theorem split_eq : ∀ (n m x y : List UInt8), AllLet n → AllLet m → edge x = true → edge y = true → n ++ x = m ++ y → n = m ∧ x = y
  | [], [], x, y, _, _, _, _, h => ⟨rfl, h⟩
  | [], c :: m, x, y, _, hm, hx, _, h => by
    exfalso
    simp only [List.nil_append] at h
    rw [h] at hx
    simp only [List.cons_append, edge, beq_iff_eq] at hx
    exact let_ne (hm c (by simp)) hx
  | c :: n, [], x, y, hn, _, _, hy, h => by
    exfalso
    simp only [List.nil_append] at h
    rw [← h] at hy
    simp only [List.cons_append, edge, beq_iff_eq] at hy
    exact let_ne (hn c (by simp)) hy
  | c :: n, d :: m, x, y, hn, hm, hx, hy, h => by
    simp only [List.cons_append, List.cons.injEq] at h
    obtain ⟨h1, h2⟩ := split_eq n m x y (fun e he => hn e (by simp [he])) (fun e he => hm e (by simp [he])) hx hy h.2
    exact ⟨by rw [h.1, h1], h2⟩

theorem pre_strokes : ∀ (x y : List (List UInt8)), (∀ p ∈ x, AllLet p) → (∀ p ∈ y, AllLet p) → (isPre x y = true ↔ ∃ r, strokes y = strokes x ++ r ∧ edge r = true)
  | [], y, _, _ => ⟨fun _ => ⟨strokes y, rfl, edge_strokes y⟩, fun _ => rfl⟩
  | n :: x, [], _, _ => by
    constructor
    · intro h; simp [isPre] at h
    · rintro ⟨r, h, _⟩
      rw [strokes_cons] at h
      simp [strokes] at h
  | n :: x, m :: y, hx, hy => by
    have ih := pre_strokes x y (fun p hp => hx p (by simp [hp])) (fun p hp => hy p (by simp [hp]))
    simp only [isPre, Bool.and_eq_true, beq_iff_eq]
    rw [ih]
    constructor
    · rintro ⟨rfl, r, h, he⟩
      exact ⟨r, by rw [strokes_cons, strokes_cons, h]; simp, he⟩
    · rintro ⟨r, h, he⟩
      rw [strokes_cons, strokes_cons, List.cons_append, List.append_assoc] at h
      have h := (List.cons.inj h).2
      have hedge : edge (strokes x ++ r) = true := by
        cases hs : strokes x with
        | nil => exact he
        | cons c l => have := edge_strokes x; rw [hs] at this; exact this
      obtain ⟨h1, h2⟩ := split_eq m n (strokes y) (strokes x ++ r) (hy m (by simp)) (hx n (by simp)) (edge_strokes y) hedge h
      exact ⟨h1.symm, r, h2, he⟩

/-- What the code asks: the second text without the first one's, whose last stroke is off. -/
def trimmed (a : List UInt8) : List UInt8 := if a.getLast? = some 47 then a.dropLast else a

theorem trimmed_path (l : List (List UInt8)) (h : ∀ p ∈ l, Named p) : trimmed (pathText l) = strokes l := by
  unfold pathText
  split
  · rename_i e; subst e; rfl
  · rename_i hne
    unfold trimmed
    rw [if_neg]
    -- the last byte is a letter
    have : ∀ (l : List (List UInt8)), l ≠ [] → (∀ p ∈ l, Named p) → ∃ c, (strokes l).getLast? = some c ∧ letN c.toNat = true := by
      intro l
      induction l with
      | nil => intro h; exact absurd rfl h
      | cons n l ih =>
        intro _ hn
        rw [strokes_cons]
        by_cases hl : l = []
        · subst hl
          have hN := hn n (by simp)
          refine ⟨n.getLast hN.1, ?_, hN.2.2 _ (List.getLast_mem _)⟩
          simp only [strokes, List.flatMap_nil, List.append_nil]
          rw [List.getLast?_cons, List.getLast?_eq_some_getLast hN.1]; rfl
        · obtain ⟨c, hc, hlet⟩ := ih hl (fun p hp => hn p (by simp [hp]))
          refine ⟨c, ?_, hlet⟩
          rw [List.getLast?_cons, List.getLast?_append, hc]; rfl
    obtain ⟨c, hc, hlet⟩ := this l hne h
    rw [hc]
    intro e
    exact let_ne hlet (Option.some.inj e)

theorem strokes_ne {n : List UInt8} {l : List (List UInt8)} : strokes (n :: l) ≠ [] := by rw [strokes_cons]; simp

/-- Of two paths: the code's question is the names'. -/
theorem under_text (x y : List (List UInt8)) (hx : ∀ p ∈ x, Named p) (hy : ∀ p ∈ y, Named p) : isPre x y = true ↔ ∃ r, pathText y = strokes x ++ r ∧ edge r = true := by
  by_cases hy0 : y = []
  · subst hy0
    cases x with
    | nil => exact ⟨fun _ => ⟨[47], rfl, rfl⟩, fun _ => rfl⟩
    | cons n x =>
      constructor
      · intro h; simp [isPre] at h
      · rintro ⟨r, h, _⟩
        rw [strokes_cons] at h
        have hn := (hx n (by simp)).1
        have := congrArg List.length h
        simp [pathText] at this
        exact absurd this.1 hn
  · unfold pathText
    rw [if_neg hy0]
    exact pre_strokes x y (fun p hp => (hx p hp).2.2) (fun p hp => (hy p hp).2.2)

end Go.Proofs.YthchkhfnhhpleaaDoor

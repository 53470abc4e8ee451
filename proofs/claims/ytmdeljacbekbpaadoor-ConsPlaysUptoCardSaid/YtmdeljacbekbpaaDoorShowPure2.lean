/- Show, plainly. -/
import Derived.Test.YtmdeljacbekbpaaDoorShowPure
namespace Go.Proofs.YtmdeljacbekbpaaDoor
open Go.Lib

/-- The letter at the begin: which, and how many bytes. -/
def dec (l : List UInt8) : Nat × Nat := decodeN l.length (l.getD 0 0).toNat (l.getD 1 0).toNat (l.getD 2 0).toNat (l.getD 3 0).toNat
def hexD (n : Nat) : UInt8 := if n < 10 then UInt8.ofNat (48 + n) else UInt8.ofNat (87 + n)
def hexs (l : List UInt8) : List UInt8 := l.flatMap fun c => [92, 120, hexD (c.toNat / 16), hexD (c.toNat % 16)]
def piece (l : List UInt8) : List UInt8 :=
  if (dec l).1 = 65533 ∧ (dec l).2 = 1 then hexs (l.take (dec l).2) else if (dec l).1 = 92 then [92, 92] else if (32 ≤ (dec l).1 ∧ (dec l).1 ≤ 126) ∨ 160 ≤ (dec l).1 then l.take (dec l).2 else hexs (l.take (dec l).2)
def showF : Nat → List UInt8 → List UInt8
  | 0, _ => []
  | _ + 1, [] => []
  | f + 1, c :: l => piece (c :: l) ++ showF f ((c :: l).drop (dec (c :: l)).2)
def showR (l : List UInt8) : List UInt8 := showF l.length l

theorem decodeN_cases (n b0 b1 b2 b3 : Nat) : (decodeN n b0 b1 b2 b3).2 = 1 ∧ (b0 < 128 ∧ (decodeN n b0 b1 b2 b3).1 = b0 ∨ 128 ≤ b0 ∧ (decodeN n b0 b1 b2 b3).1 = 65533) ∨
    (128 ≤ b0 ∧ 128 ≤ (decodeN n b0 b1 b2 b3).1 ∧ 128 ≤ b1 ∧ (decodeN n b0 b1 b2 b3).2 ≤ n ∧
      ((decodeN n b0 b1 b2 b3).2 = 2 ∨ ((decodeN n b0 b1 b2 b3).2 = 3 ∧ 128 ≤ b2) ∨ ((decodeN n b0 b1 b2 b3).2 = 4 ∧ 128 ≤ b2 ∧ 128 ≤ b3))) := by
  by_cases c1 : b0 < 128
  · have e : decodeN n b0 b1 b2 b3 = (b0, 1) := by unfold decodeN; rw [if_pos c1]
    rw [e]; exact .inl ⟨rfl, .inl ⟨c1, rfl⟩⟩
  by_cases c2 : b0 / 32 = 6 ∧ (1 < n ∧ b1 / 64 = 2)
  · by_cases q : b0 % 32 * 64 + b1 % 64 ≥ 128
    · have e : decodeN n b0 b1 b2 b3 = (b0 % 32 * 64 + b1 % 64, 2) := by unfold decodeN; rw [if_neg c1, if_pos c2, if_pos q]
      rw [e]; exact .inr ⟨by omega, by simp only; omega, by omega, by simp only; omega, .inl rfl⟩
    · have e : decodeN n b0 b1 b2 b3 = (65533, 1) := by unfold decodeN; rw [if_neg c1, if_pos c2, if_neg q]
      rw [e]; exact .inl ⟨rfl, .inr ⟨by omega, rfl⟩⟩
  by_cases c3 : b0 / 16 = 14 ∧ (1 < n ∧ b1 / 64 = 2) ∧ (2 < n ∧ b2 / 64 = 2)
  · by_cases q : b0 % 16 * 4096 + b1 % 64 * 64 + b2 % 64 ≥ 2048 ∧ (b0 % 16 * 4096 + b1 % 64 * 64 + b2 % 64 < 55296 ∨ (57344 ≤ b0 % 16 * 4096 + b1 % 64 * 64 + b2 % 64 ∧ b0 % 16 * 4096 + b1 % 64 * 64 + b2 % 64 ≤ 1114111))
    · have e : decodeN n b0 b1 b2 b3 = (b0 % 16 * 4096 + b1 % 64 * 64 + b2 % 64, 3) := by unfold decodeN; rw [if_neg c1, if_neg c2, if_pos c3, if_pos q]
      rw [e]; exact .inr ⟨by omega, by simp only; omega, by omega, by simp only; omega, .inr (.inl ⟨rfl, by omega⟩)⟩
    · have e : decodeN n b0 b1 b2 b3 = (65533, 1) := by unfold decodeN; rw [if_neg c1, if_neg c2, if_pos c3, if_neg q]
      rw [e]; exact .inl ⟨rfl, .inr ⟨by omega, rfl⟩⟩
  by_cases c4 : b0 / 8 = 30 ∧ (1 < n ∧ b1 / 64 = 2) ∧ (2 < n ∧ b2 / 64 = 2) ∧ (3 < n ∧ b3 / 64 = 2)
  · by_cases q : b0 % 8 * 262144 + b1 % 64 * 4096 + b2 % 64 * 64 + b3 % 64 ≥ 65536 ∧ (b0 % 8 * 262144 + b1 % 64 * 4096 + b2 % 64 * 64 + b3 % 64 < 55296 ∨ (57344 ≤ b0 % 8 * 262144 + b1 % 64 * 4096 + b2 % 64 * 64 + b3 % 64 ∧ b0 % 8 * 262144 + b1 % 64 * 4096 + b2 % 64 * 64 + b3 % 64 ≤ 1114111))
    · have e : decodeN n b0 b1 b2 b3 = (b0 % 8 * 262144 + b1 % 64 * 4096 + b2 % 64 * 64 + b3 % 64, 4) := by unfold decodeN; rw [if_neg c1, if_neg c2, if_neg c3, if_pos c4, if_pos q]
      rw [e]; exact .inr ⟨by omega, by simp only; omega, by omega, by simp only; omega, .inr (.inr ⟨rfl, by omega, by omega⟩)⟩
    · have e : decodeN n b0 b1 b2 b3 = (65533, 1) := by unfold decodeN; rw [if_neg c1, if_neg c2, if_neg c3, if_pos c4, if_neg q]
      rw [e]; exact .inl ⟨rfl, .inr ⟨by omega, rfl⟩⟩
  · have e : decodeN n b0 b1 b2 b3 = (65533, 1) := by unfold decodeN; rw [if_neg c1, if_neg c2, if_neg c3, if_neg c4]
    rw [e]; exact .inl ⟨rfl, .inr ⟨by omega, rfl⟩⟩

/-- At least one byte, no more than there are. -/
theorem dec_width (c : UInt8) (l : List UInt8) : 1 ≤ (dec (c :: l)).2 ∧ (dec (c :: l)).2 ≤ (c :: l).length := by
  have h := decodeN_cases (c :: l).length ((c :: l).getD 0 0).toNat ((c :: l).getD 1 0).toNat ((c :: l).getD 2 0).toNat ((c :: l).getD 3 0).toNat
  unfold dec
  have : 1 ≤ (c :: l).length := by simp
  omega

theorem dec_ascii (c : UInt8) (l : List UInt8) (h : c.toNat < 128) : dec (c :: l) = (c.toNat, 1) := by
  unfold dec decodeN
  simp only [List.getD_cons_zero]
  rw [if_pos h]

theorem showF_more : ∀ (f g : Nat) (l : List UInt8), l.length ≤ f → l.length ≤ g → showF f l = showF g l
  | 0, g, l, h, _ => by
    obtain rfl := List.eq_nil_of_length_eq_zero (Nat.le_zero.1 h)
    cases g <;> rfl
  | f + 1, 0, l, _, h => by
    obtain rfl := List.eq_nil_of_length_eq_zero (Nat.le_zero.1 h)
    rfl
  | f + 1, g + 1, [], _, _ => rfl
  | f + 1, g + 1, c :: l, h, k => by
    have hw := dec_width c l
    simp only [List.length_cons] at h k hw
    unfold showF
    rw [showF_more f g _ (by simp only [List.length_drop, List.length_cons]; omega) (by simp only [List.length_drop, List.length_cons]; omega)]

theorem showR_cons (c : UInt8) (l : List UInt8) : showR (c :: l) = piece (c :: l) ++ showR ((c :: l).drop (dec (c :: l)).2) := by
  have hw := dec_width c l
  simp only [List.length_cons] at hw
  have hle : ((c :: l).drop (dec (c :: l)).2).length ≤ l.length := by rw [List.length_drop, List.length_cons]; omega
  unfold showR
  rw [List.length_cons, showF, showF_more l.length _ _ hle (Nat.le_refl _)]
theorem showR_nil : showR [] = [] := rfl

/-- Bytes that are shown as they are. -/
def plainB (c : UInt8) : Bool := decide (32 ≤ c.toNat ∧ c.toNat ≤ 126 ∧ c.toNat ≠ 92)

theorem show_plain (c : UInt8) (l : List UInt8) (h : plainB c = true) : showR (c :: l) = c :: showR l := by
  have h := of_decide_eq_true h
  have e := dec_ascii c l (by omega)
  rw [showR_cons, e]
  unfold piece
  rw [e]
  simp only
  rw [if_neg (by omega), if_neg h.2.2, if_pos (by omega)]
  rfl
theorem show_plain_app : ∀ (a b : List UInt8), (∀ c ∈ a, plainB c = true) → showR (a ++ b) = a ++ showR b
  | [], _, _ => rfl
  | c :: a, b, h => by
    rw [List.cons_append, show_plain c _ (h c (by simp)), show_plain_app a b (fun d hd => h d (by simp [hd])), List.cons_append]

def seenB (c : UInt8) : Prop := 32 ≤ c.toNat ∧ c.toNat ≠ 127

theorem hexD_seen (n : Nat) (h : n < 16) : seenB (hexD n) := by
  unfold hexD seenB
  split
  · rw [UInt8.toNat_ofNat']; omega
  · rw [UInt8.toNat_ofNat']; omega
theorem hexs_seen (l : List UInt8) : ∀ c ∈ hexs l, seenB c := by
  intro c hc
  obtain ⟨d, _, hd⟩ := List.mem_flatMap.1 hc
  have hlt := UInt8.toNat_lt d
  simp only [List.mem_cons, List.not_mem_nil, or_false] at hd
  rcases hd with rfl | rfl | rfl | rfl
  · exact ⟨by decide, by decide⟩
  · exact ⟨by decide, by decide⟩
  · exact hexD_seen _ (by omega)
  · exact hexD_seen _ (by omega)

theorem piece_seen (c : UInt8) (l : List UInt8) : ∀ x ∈ piece (c :: l), seenB x := by
  intro x hx
  unfold piece at hx
  split at hx
  · exact hexs_seen _ x hx
  · rename_i h1
    split at hx
    · simp only [List.mem_cons, List.not_mem_nil, or_false, or_self] at hx
      rw [hx]; exact ⟨by decide, by decide⟩
    · split at hx
      · rename_i h3
        have h := decodeN_cases (c :: l).length ((c :: l).getD 0 0).toNat ((c :: l).getD 1 0).toNat ((c :: l).getD 2 0).toNat ((c :: l).getD 3 0).toNat
        have hd : decodeN (c :: l).length ((c :: l).getD 0 0).toNat ((c :: l).getD 1 0).toNat ((c :: l).getD 2 0).toNat ((c :: l).getD 3 0).toNat = dec (c :: l) := rfl
        rw [hd] at h
        obtain ⟨i, hi⟩ := List.getElem?_of_mem hx
        have hil := (List.getElem?_eq_some_iff.1 hi).1
        rw [List.length_take] at hil
        rw [List.getElem?_take_of_lt (by omega)] at hi
        have hg : (c :: l).getD i 0 = x := by rw [List.getD_eq_getElem?_getD, hi]; rfl
        rcases h with ⟨h4, h5⟩ | ⟨h5, h6, h7, h8, h9⟩
        · have hi0 : i = 0 := by omega
          subst hi0
          rw [hg] at h5
          unfold seenB
          omega
        · unfold seenB
          have : i = 0 ∨ i = 1 ∨ i = 2 ∨ i = 3 := by omega
          rcases this with rfl | rfl | rfl | rfl
          all_goals (rw [← hg]; omega)
      · exact hexs_seen _ x hx

theorem showF_seen : ∀ (f : Nat) (l : List UInt8), ∀ x ∈ showF f l, seenB x
  | 0, _, x, hx => by simp [showF] at hx
  | f + 1, [], x, hx => by simp [showF] at hx
  | f + 1, c :: l, x, hx => by
    unfold showF at hx
    rcases List.mem_append.1 hx with h | h
    · exact piece_seen c l x h
    · exact showF_seen f _ x h
theorem show_seen (l : List UInt8) : ∀ x ∈ showR l, seenB x := showF_seen _ l

/-- No more than four letters for each byte. -/
theorem hexs_len (l : List UInt8) : (hexs l).length = 4 * l.length := by
  unfold hexs
  induction l with
  | nil => rfl
  | cons c l ih => simp only [List.flatMap_cons, List.length_append, List.length_cons, List.length_nil, ih]; omega
theorem piece_len (c : UInt8) (l : List UInt8) : (piece (c :: l)).length ≤ 4 * (dec (c :: l)).2 := by
  have hw := dec_width c l
  unfold piece
  split
  · rw [hexs_len, List.length_take]; omega
  · split
    · simp only [List.length_cons, List.length_nil]; omega
    · split
      · rw [List.length_take]; omega
      · rw [hexs_len, List.length_take]; omega
theorem showF_len : ∀ (f : Nat) (l : List UInt8), (showF f l).length ≤ 4 * l.length
  | 0, _ => by simp [showF]
  | f + 1, [] => by simp [showF]
  | f + 1, c :: l => by
    have hw := dec_width c l
    have h1 := piece_len c l
    have h2 := showF_len f ((c :: l).drop (dec (c :: l)).2)
    rw [List.length_drop] at h2
    unfold showF
    rw [List.length_append]
    omega
theorem show_len (l : List UInt8) : (showR l).length ≤ 4 * l.length := showF_len _ l

end Go.Proofs.YtmdeljacbekbpaaDoor

/- What is stored through two entries is fetched again: plainly. -/
import Derived.Test.YtpfjpfepbhfmeaaPteH
namespace Go.Proofs.Ytpfjpfepbhfmeaa
open Go.RowKit
set_option maxRecDepth 100000

theorem splice_at {l bs : List Int} {o : Nat} (hl : l.length = 256) (ho : o + bs.length ≤ 256) (j : Nat) (hj : j < 256) :
    (splice l o bs)[j]? = if o ≤ j ∧ j < o + bs.length then bs[j - o]? else l[j]? := by
  unfold splice
  by_cases h1 : j < o
  · rw [List.getElem?_append_left (by simp; omega), List.getElem?_take_of_lt h1, if_neg (by omega)]
  · rw [List.getElem?_append_right (by simp; omega)]
    have e : (l.take o).length = o := by simp; omega
    rw [e]
    by_cases h2 : j < o + bs.length
    · rw [List.getElem?_append_left (by omega), if_pos ⟨by omega, h2⟩]
    · rw [List.getElem?_append_right (by omega), List.getElem?_drop, if_neg (by omega)]
      congr 1; omega

theorem splice_len {l bs : List Int} {o : Nat} (hl : l.length = 256) (ho : o + bs.length ≤ 256) : (splice l o bs).length = 256 := by
  rw [length_splice _ _ _ (by omega), hl]

theorem splice_range {l bs : List Int} {o : Nat} (hl : ∀ x ∈ l, 0 ≤ x ∧ x ≤ 255) (hb : ∀ x ∈ bs, 0 ≤ x ∧ x ≤ 255) : ∀ x ∈ splice l o bs, 0 ≤ x ∧ x ≤ 255 := by
  intro x hx
  unfold splice at hx
  rcases List.mem_append.1 hx with h | h
  · exact hl x (List.mem_of_mem_take h)
  · rcases List.mem_append.1 h with h | h
    · exact hb x h
    · exact hl x (List.mem_of_mem_drop h)

theorem Fr.ok.splice {f : Fr} (h : f.ok) {o : Nat} {bs : List Int} (ho : o + bs.length ≤ 256) (hb : ∀ x ∈ bs, 0 ≤ x ∧ x ≤ 255) : ({ f with bytes := Go.splice f.bytes o bs } : Fr).ok :=
  ⟨splice_len h.1 ho, splice_range h.2 hb⟩

theorem win4 {l : List Int} {k : Nat} {a b c d : Int} (h0 : l[k]? = some a) (h1 : l[k + 1]? = some b) (h2 : l[k + 2]? = some c) (h3 : l[k + 3]? = some d) : (l.drop k).take 4 = [a, b, c, d] := by
  refine List.ext_getElem? (fun i => ?_)
  match i with
  | 0 => rw [List.getElem?_take_of_lt (by omega), List.getElem?_drop]; exact h0
  | 1 => rw [List.getElem?_take_of_lt (by omega), List.getElem?_drop]; exact h1
  | 2 => rw [List.getElem?_take_of_lt (by omega), List.getElem?_drop]; exact h2
  | 3 => rw [List.getElem?_take_of_lt (by omega), List.getElem?_drop]; exact h3
  | i + 4 => rw [List.getElem?_eq_none (by simp; omega)]; rfl

theorem unpack_ent (m : Int) : unpackR (word4 [3, m, 0, 0]) = (⟨true, true, m⟩, 0) := by
  have e : word4 [3, m, 0, 0] = 3 + 256 * m := by simp [word4]
  rw [e]
  unfold unpackR
  rw [if_neg (by omega), if_neg (by omega)]
  have h1 : (3 + 256 * m) % 4 = 3 := by omega
  have h2 : (3 + 256 * m) / 256 = m := by omega
  rw [h1, h2]; rfl

theorem ent_of {S : List Fr} {t i : Int} {f : Fr} {m : Int} (hi : 0 ≤ i ∧ i < 64) (ht : 0 ≤ t ∧ t < S.length) (hf : S[t.toNat]? = some f) (hb : (f.bytes.drop (4 * i).toNat).take 4 = [3, m, 0, 0]) : entR S t i = (⟨true, true, m⟩, 0) := by
  have h1 := atR_in hi ht hf
  rw [hb] at h1
  unfold entR
  rw [h1]
  simp only [unpack_ent]
  simp

structure KeptS (S : List Fr) (l2 l1 one two : Nat) : Prop where
  ok : okS S
  len : S.length = 8
  own : ∀ (i : Nat) (f : Fr), S[i]? = some f → f.owner ≠ -1
  t0 : ∃ f : Fr, S[0]? = some f ∧ (f.bytes.drop (4 * l2)).take 4 = [3, 1, 0, 0]
  t1 : ∃ f : Fr, S[1]? = some f ∧ (f.bytes.drop (4 * l1)).take 4 = [3, (one : Int), 0, 0] ∧ (f.bytes.drop (4 * (l1 + 1))).take 4 = [3, (two : Int), 0, 0]
  low : ∀ i : Nat, 2 ≤ i → i < 8 → i ≠ one → i ≠ two → byteAt S ((i : Int), 100) = 0
  o : 2 ≤ one ∧ one < 8 ∧ 2 ≤ two ∧ two < 8
  l : l2 < 64 ∧ l1 < 63

theorem KeptS.walk {S : List Fr} {l2 l1 one two : Nat} (h : KeptS S l2 l1 one two) (va : Int) (bw : Bool) (h0 : va / 16384 = l2) (h1 : va / 256 % 64 = l1 ∨ va / 256 % 64 = l1 + 1) :
    walkR S 0 va bw = ((if va / 256 % 64 = l1 then (one : Int) else two), va % 256, 0) := by
  obtain ⟨f0, hf0, hb0⟩ := h.t0
  obtain ⟨f1, hf1, hb1, hb2⟩ := h.t1
  have hl := h.len
  have ho := h.o
  have hll := h.l
  have e0 : entR S 0 (va / 16384) = (⟨true, true, 1⟩, 0) := ent_of (by omega) (by omega) (by simpa using hf0) (by rw [h0, show (4 * (l2 : Int)).toNat = 4 * l2 by omega]; exact hb0)
  have e1 : entR S 1 (va / 256 % 64) = (⟨true, true, (if va / 256 % 64 = l1 then (one : Int) else two)⟩, 0) := by
    refine ent_of (by omega) (by omega) (by simpa using hf1) ?_
    rcases h1 with q | q
    · rw [if_pos q, q, show (4 * (l1 : Int)).toNat = 4 * l1 by omega]; exact hb1
    · rw [if_neg (by omega), q, show (4 * ((l1 : Int) + 1)).toNat = 4 * (l1 + 1) by omega]; exact hb2
  unfold walkR
  rw [if_neg (by omega), e0]
  simp only
  rw [e1]
  simp only
  rw [if_neg (by simp), if_neg (by simp), if_neg (by simp), if_neg (by split <;> omega)]

theorem put1_at (S : List Fr) (p : Int × Int) (x : Int) (k : Nat) (h : k ≠ p.1.toNat) : (put1 S p x)[k]? = S[k]? := by
  unfold put1
  split
  · split
    · rfl
    · rw [List.getElem?_set_ne (fun e => h e.symm)]
  · rfl

theorem put1_same {S : List Fr} {p : Int × Int} {f : Fr} (x : Int) (hf : S[p.1.toNat]? = some f) (ho : f.owner ≠ -1) : put1 S p x = S.set p.1.toNat { f with bytes := splice f.bytes p.2.toNat [x] } := by
  unfold put1; rw [hf]; exact if_neg ho

theorem byteAt_put {S : List Fr} (hS : okS S) {p q : Int × Int} (x : Int) (hp : InPl S p) (hq : InPl S q) (ho : ∀ f : Fr, S[p.1.toNat]? = some f → f.owner ≠ -1) : byteAt (put1 S p x) q = if q = p then x else byteAt S q := by
  obtain ⟨f, hf, _, _⟩ := byteAt_in hp
  have hfo := hS f (List.mem_of_getElem? hf)
  have hlt := (List.getElem?_eq_some_iff.1 hf).1
  obtain ⟨hp1, hp2⟩ := hp
  obtain ⟨hq1, hq2⟩ := hq
  rw [put1_same x hf (ho f hf)]
  unfold byteAt
  by_cases h1 : q.1 = p.1
  · rw [h1, List.getElem?_set_self hlt, hf]
    simp only
    rw [List.getD_eq_getElem?_getD, List.getD_eq_getElem?_getD, splice_at hfo.1 (by simp; omega) _ (by omega)]
    by_cases h2 : q.2 = p.2
    · rw [if_pos (by simp; omega), if_pos (Prod.ext h1 h2), h2, Nat.sub_self]; rfl
    · rw [if_neg (by simp; omega), if_neg (fun e => h2 (by rw [e]))]
  · rw [List.getElem?_set_ne (by omega), if_neg (fun e => h1 (by rw [e]))]

theorem KeptS.put {S : List Fr} {l2 l1 one two : Nat} (h : KeptS S l2 l1 one two) {p : Int × Int} (hp : InPl S p) (h1 : p.1 = one ∨ p.1 = two) (x : Int) (hx : 0 ≤ x ∧ x ≤ 255) : KeptS (put1 S p x) l2 l1 one two := by
  have ho := h.o
  have hge : 2 ≤ p.1.toNat := by omega
  obtain ⟨f, hf, _, _⟩ := byteAt_in hp
  refine ⟨?_, by rw [put1_len]; exact h.len, ?_, ?_, ?_, ?_, h.o, h.l⟩
  · rw [put1_same x hf (h.own _ f hf)]
    refine okS_set h.ok _ ?_
    refine (h.ok f (List.mem_of_getElem? hf)).splice (by have := hp.2; simp; omega) ?_
    intro y hy
    rw [List.mem_singleton.1 hy]; exact hx
  · intro i g hg
    by_cases e : i = p.1.toNat
    · subst e
      rw [put1_same x hf (h.own _ f hf), List.getElem?_set_self (List.getElem?_eq_some_iff.1 hf).1] at hg
      rw [← Option.some.inj hg]
      exact h.own _ f hf
    · rw [put1_at _ _ _ _ e] at hg
      exact h.own i g hg
  · rw [put1_at _ _ _ _ (by omega)]; exact h.t0
  · rw [put1_at _ _ _ _ (by omega)]; exact h.t1
  · intro i a b c d
    have := h.low i a b c d
    unfold byteAt at this ⊢
    rw [put1_at _ _ _ _ (by simp only [Int.toNat_natCast]; omega)]
    exact this

theorem KeptS.puts {S : List Fr} {l2 l1 one two : Nat} (h : KeptS S l2 l1 one two) (pl : List (Int × Int)) (bs : List Int) (hpl : ∀ p ∈ pl, InPl S p ∧ (p.1 = one ∨ p.1 = two)) (hb : ∀ x ∈ bs, 0 ≤ x ∧ x ≤ 255) (hl : pl.length = bs.length) : ∀ k, k ≤ bs.length → KeptS (putsTo pl bs S k) l2 l1 one two
  | 0, _ => h
  | k + 1, hk => by
    have ih := h.puts pl bs hpl hb hl k (by omega)
    have hp : pl[k]? = some pl[k] := List.getElem?_eq_getElem (by omega)
    have hx : bs[k]? = some bs[k] := List.getElem?_eq_getElem (by omega)
    rw [puts_step hp hx]
    have := hpl _ (List.mem_of_getElem? hp)
    exact ih.put (this.1.of (putsTo_len _ _ _ _)) this.2 _ (hb _ (List.mem_of_getElem? hx))

/-- What stands at places that are all different, behind the stores. -/
theorem KeptS.told {S : List Fr} {l2 l1 one two : Nat} (h : KeptS S l2 l1 one two) (pl : List (Int × Int)) (bs : List Int) (hpl : ∀ p ∈ pl, InPl S p ∧ (p.1 = one ∨ p.1 = two)) (hb : ∀ x ∈ bs, 0 ≤ x ∧ x ≤ 255) (hl : pl.length = bs.length)
    (hd : ∀ (i j : Nat) (p : Int × Int), pl[i]? = some p → pl[j]? = some p → i = j) : ∀ k, k ≤ bs.length → ∀ (i : Nat) (p : Int × Int) (x : Int), i < k → pl[i]? = some p → bs[i]? = some x → byteAt (putsTo pl bs S k) p = x
  | 0, _, i, _, _, hi, _, _ => absurd hi (Nat.not_lt_zero _)
  | k + 1, hk, i, p, x, hi, hpi, hxi => by
    have hp : pl[k]? = some pl[k] := List.getElem?_eq_getElem (by omega)
    have hx : bs[k]? = some bs[k] := List.getElem?_eq_getElem (by omega)
    have hk' := h.puts pl bs hpl hb hl k (by omega)
    rw [puts_step hp hx, byteAt_put hk'.ok _ ((hpl _ (List.mem_of_getElem? hp)).1.of (putsTo_len _ _ _ _)) ((hpl _ (List.mem_of_getElem? hpi)).1.of (putsTo_len _ _ _ _)) (fun f hf => hk'.own _ f hf)]
    by_cases e : i = k
    · subst e
      rw [hp] at hpi
      rw [hx] at hxi
      rw [if_pos (Option.some.inj hpi).symm]
      exact Option.some.inj hxi
    · rw [if_neg (fun q => e (hd i k p hpi (by rw [q]; exact hp)))]
      exact h.told pl bs hpl hb hl hd k (by omega) i p x (by omega) hpi hxi

theorem KeptS.back {S : List Fr} {l2 l1 one two : Nat} (h : KeptS S l2 l1 one two) (at_ : Int) (bs : List Int) (hat : at_ / 16384 = l2 ∧ at_ / 256 % 64 = l1) (hN : bs.length ≤ 256) (hb : ∀ x ∈ bs, 0 ≤ x ∧ x ≤ 255) :
    errTo S 0 at_ true bs.length = 0 ∧ KeptS (putsTo (plcs S 0 at_ true bs.length) bs S bs.length) l2 l1 one two ∧
    errTo (putsTo (plcs S 0 at_ true bs.length) bs S bs.length) 0 at_ false bs.length = 0 ∧ fetchB (putsTo (plcs S 0 at_ true bs.length) bs S bs.length) 0 at_ bs.length = bs := by
  have hl := h.l
  have hw : ∀ (T : List Fr), KeptS T l2 l1 one two → ∀ (bw : Bool) (i : Nat), i < bs.length → walkR T 0 (at_ + i) bw = ((if (at_ + i) / 256 % 64 = l1 then (one : Int) else two), (at_ + i) % 256, 0) :=
    fun T hT bw i hi => hT.walk (at_ + i) bw (by omega) (by omega)
  have he : errTo S 0 at_ true bs.length = 0 := errTo_of (fun i hi => by rw [hw S h true i hi])
  have hin := plcs_in h.ok he
  have hpl : ∀ p ∈ plcs S 0 at_ true bs.length, InPl S p ∧ (p.1 = one ∨ p.1 = two) := by
    intro p hp
    refine ⟨hin p hp, ?_⟩
    obtain ⟨i, hi⟩ := List.getElem?_of_mem hp
    have hil := (List.getElem?_eq_some_iff.1 hi).1
    rw [plcs_len] at hil
    rw [plcs_at hil] at hi
    rw [← Option.some.inj hi]
    simp only [plc]
    rw [hw S h true i hil]
    simp only
    split
    · exact .inl rfl
    · exact .inr rfl
  have hd : ∀ (i j : Nat) (p : Int × Int), (plcs S 0 at_ true bs.length)[i]? = some p → (plcs S 0 at_ true bs.length)[j]? = some p → i = j := by
    intro i j p hi hj
    have hil := (List.getElem?_eq_some_iff.1 hi).1
    have hjl := (List.getElem?_eq_some_iff.1 hj).1
    rw [plcs_len] at hil hjl
    rw [plcs_at hil] at hi
    rw [plcs_at hjl] at hj
    have h1 : p.2 = (at_ + i) % 256 := by rw [← Option.some.inj hi]; simp only [plc]; rw [hw S h true i hil]
    have h2 : p.2 = (at_ + j) % 256 := by rw [← Option.some.inj hj]; simp only [plc]; rw [hw S h true j hjl]
    omega
  have hK := h.puts _ bs hpl hb (plcs_len _ _ _ _ _) bs.length (Nat.le_refl _)
  refine ⟨he, hK, errTo_of (fun i hi => by rw [hw _ hK false i hi]), ?_⟩
  refine List.ext_getElem? (fun i => ?_)
  unfold fetchB
  rw [List.getElem?_map]
  by_cases hi : i < bs.length
  · rw [plcs_at hi]
    have hx : bs[i]? = some bs[i] := List.getElem?_eq_getElem hi
    rw [hx]
    have hsame : plc (putsTo (plcs S 0 at_ true bs.length) bs S bs.length) 0 at_ false i = plc S 0 at_ true i := by
      simp only [plc]
      rw [hw _ hK false i hi, hw S h true i hi]
    rw [hsame]
    simp only [Option.map_some]
    rw [h.told _ bs hpl hb (plcs_len _ _ _ _ _) hd bs.length (Nat.le_refl _) i _ _ hi (plcs_at hi) hx]
  · rw [List.getElem?_eq_none (by rw [plcs_len]; omega), List.getElem?_eq_none (by omega)]; rfl

end Go.Proofs.Ytpfjpfepbhfmeaa

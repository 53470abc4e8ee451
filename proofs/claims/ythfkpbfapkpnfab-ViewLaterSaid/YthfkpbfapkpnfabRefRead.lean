/- tenementref01: Read. -/
import Derived.Test.YthfkpbfapkpnfabRefRW
namespace Go.Proofs.Ythfkpbfapkpnfab
open Go.RowKit
set_option maxRecDepth 100000

theorem own_empty {w : World} {n₀ : Nat} {g : Nat} (h : w.heap[g]? = some (.cells #[] 5 (0, 0))) (hg : n₀ ≤ g) : w.ownsRow n₀ 5 1 (.slice (some ⟨g, 0, none⟩) 0 0) 0 [] :=
  ⟨rfl, .inr ⟨g, 0, #[], rfl, hg, h, Nat.le_refl _, Nat.zero_le _, rfl, rfl⟩⟩

/-- The conversion of an own row of bytes to a text. -/
theorem conv_own {w : World} {n₀ n : Nat} {v : Value} {xs : List Int} (h : w.ownsRow n₀ 5 1 v n (xs.map (Value.int .u8))) :
    (convert 33 9 v).run Try.prog w = .ok (.string (strOfNums xs)) w := by
  have hl := h.1
  simp at hl
  rcases h.2 with ⟨rfl, h2⟩ | ⟨g, cap, cur, rfl, hg, hr, hc, hm, hs, ht⟩
  · subst h2
    obtain rfl : xs = [] := List.eq_nil_of_length_eq_zero hl
    rfl
  · refine run_convert_bytes_arg w 33 5 Try.underlying33 Try.underlying5 g 0 n cap xs hl (fun i hi => ?_) 9 Try.underlying9
    have := h.cells (g := g) rfl i (.int .u8 xs[i]) (by simp [List.getElem?_eq_getElem (show i < xs.length by omega)])
    rw [Addr.add_lit] at this
    rw [this, List.getD_eq_getElem?_getD, List.getElem?_eq_getElem (by omega)]
    rfl

theorem infoU8P : ∃ i0, Try.prog.info? 5 = some i0 ∧ i0.zero = some (.int .u8 0) ∧ i0.size = 1 ∧ i0.bytes = 1 := by
  obtain ⟨i, h, a, b, c⟩ := info_parts Try.infoU8
  exact ⟨i, h, a, b, c⟩

set_option maxHeartbeats 1600000 in
theorem rread_in {K : RfK} {S : List Fr} (i off n : Int) (f : Fr) (w : World) (h : RfM w K S) (hp : InP S i off n) (hf : S[i.toNat]? = some f) :
    Calls Try.prog 74 #[.pointer (some ⟨K.R, 0, none⟩), .int .i64 i, .int .i64 off, .int .i64 n] w fun e w' => ∃ q cap,
      e = .returned (.tuple #[.slice q n.toNat cap, .int .i64 0]) ∧ Mod No w w' ∧ w'.ownsRow w.heap.size 5 1 (.slice q n.toNat cap) n.toNat (((f.bytes.drop off.toNat).take n.toNat).map (Value.int .u8)) := by
  obtain ⟨i0, hi, hz0, hz1, hz2⟩ := infoU8P
  have hp' := hp
  obtain ⟨⟨hi0, hi1⟩, ho, hn, hs⟩ := hp
  obtain ⟨o, rfl⟩ := Int.eq_ofNat_of_zero_le ho
  obtain ⟨m, rfl⟩ := Int.eq_ofNat_of_zero_le hn
  obtain ⟨d, hd, hB⟩ := h.cB
  obtain ⟨rb, rc, hrc, hbl, hcR, hcx, hfz⟩ := h.cR hf
  have hlR := h.lt K.R (.inl rfl)
  have hlH := h.lt K.H (.inr (.inr (.inl rfl)))
  have hlb := h.lt rb (RfK.row_mem hbl)
  have hfo := h.ok f (List.mem_of_getElem? hf)
  have hil : i.toNat < S.length := by omega
  obtain ⟨bs, hbs⟩ : ∃ bs, bs = (f.bytes.drop o).take m := ⟨_, rfl⟩
  have hlen : bs.length = m := by rw [hbs]; simp [hfo.1]; omega
  have hcell : ∀ w1 : World, Mod No w w1 → ∀ ad : Addr, (0 < m → ad = ⟨rb, o, none⟩) → ∀ j u, (bs.map (Value.int .u8))[j]? = some u → w1.cell? (ad.add j) = some u := by
    intro w1 hm ad had j u hj
    have hjl := (List.getElem?_eq_some_iff.1 hj).1
    rw [List.length_map, hlen] at hjl
    rw [had (by omega), Addr.add_lit]
    rw [List.getElem?_map] at hj
    obtain ⟨x, hx, rfl⟩ := Option.map_eq_some_iff.1 hj
    have hx2 : f.bytes[o + j]? = some x := by rw [hbs, List.getElem?_take_of_lt hjl, List.getElem?_drop] at hx; exact hx
    exact (World.cell?_of_block (w := w) (hm.block rb hlb (fun q => q))).trans (hcx _ _ hx2)
  have HB := Lib.hid hbs; clear hbs
  have HC := Lib.hid hcell; clear hcell hcx
  have HL := Lib.hid hlen; clear hlen
  obtain ⟨ad, hsl, had⟩ : ∃ ad, (if rc = o then (some ⟨rb, 0, none⟩ : Option Addr) else some ⟨rb, o, none⟩) = some ad ∧ (0 < m → ad = ⟨rb, o, none⟩) := by
    by_cases q : rc = o
    · exact ⟨_, if_pos q, fun _ => by omega⟩
    · exact ⟨_, if_neg q, fun _ => rfl⟩
  have HAD := Lib.hid had; clear had
  have b1 : (0 : Int) ≤ (o : Int) + m := by omega
  have b2 : ((o : Int) + m).toNat = o + m := by omega
  have b3 : o + m - o = m := by omega
  have b4 : (o : Int) + m ≤ rc := by omega
  have b5 : (o : Int) ≤ (o : Int) + m := by omega
  have b6 : IntKind.i64.wrap ((o : Int) + m) = (o : Int) + m := IntWalk.i64_in _ (by omega)
  go_enter Try.func74, Try.ntmps74
  go_wp2_with (first
    | (go_at_call 100; refine (rin_in i o m _ h hp').mono ?_; rintro e w' ⟨rfl, rfl⟩)
    | (at_builtin; refine wpList_append_own _ rfl _ _ 33 rfl w.heap.size 5 i0 (.int .u8 0) 1 1 Try.underlying33 hi hz0 hz1 hz2 rfl (by decide) _ _ _ rfl (own_empty (heap_alloc_new w (.cells #[] 5)) (Nat.le_refl _)) ad m (rc - o) (bs.map (Value.int .u8)) rfl (by rw [List.length_map, HL.out]; omega) (HC.out _ ((Mod.refl No w).alloc _) ad HAD.out) (oneCell_u8 _) (by unfold maxLen; omega) (by omega) (by simp) ?_; intro v' w7 hown' hgrow _; obtain ⟨g', cap', rfl⟩ := owns_slice hown'))
  go_ret2
  refine ⟨g', cap', by simp, ((Mod.refl No w).alloc _).grown hgrow (fun j ej hj => ?_), ?_⟩
  · cases ej
    exact absurd hj (Nat.lt_irrefl _)
  · have h2 := hown'
    rw [Nat.zero_add, List.nil_append] at h2
    simp only [Int.toNat_natCast]
    rw [← HB.out]
    exact h2

end Go.Proofs.Ythfkpbfapkpnfab

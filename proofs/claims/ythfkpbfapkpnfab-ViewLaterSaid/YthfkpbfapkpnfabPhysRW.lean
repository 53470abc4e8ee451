/- phys.Machine: Read, Write, Frame. -/
import Derived.Test.YthfkpbfapkpnfabPhysA
namespace Go.Proofs.Ythfkpbfapkpnfab
open Go.RowKit
set_option maxRecDepth 100000

theorem Try.infoU8 : (Try.prog.info? 5).map (fun i => (i.zero, i.size, i.bytes)) = some (some (.int .u8 0), 1, 1) := by kernel_rfl
theorem Try.pageLen : Try.prog.arrayLen 120 = 256 := by kernel_rfl
theorem Try.pageElem : Try.prog.elem 120 = 5 := by kernel_rfl
theorem Try.sizeU8 : (Try.prog.info? 5).map (·.size) = some 1 := by kernel_rfl

theorem slice_page (o k F : Nat) (ho : o ≤ 256) : ∃ ad : Addr, (o < 256 → ad = ⟨F, k + o, none⟩) ∧
    ∀ w, (Instr.sliceAt 120 (.pointer (some ⟨F, k, none⟩)) (some (.int .i64 (o : Int))) none none).run Try.prog w = .ok (.slice (some ad) (256 - o) (256 - o)) w := by
  refine ⟨if 256 = o then ⟨F, k, none⟩ else ⟨F, k + o, none⟩, fun h => by rw [if_neg (by omega)], fun w => ?_⟩
  rw [run_sliceAt_array_l w 120 _ (by rw [Try.pageLen, Try.pageElem]; exact Try.underlying120) .i64 _ (by omega) (by rw [Try.pageLen]; omega)]
  rw [Try.pageLen, Try.pageElem]
  obtain ⟨i, hi, hs⟩ := Option.map_eq_some_iff.1 Try.sizeU8
  have hsz : (sizeOf 5).run Try.prog w = .ok 1 w := by simp [sizeOf, typeInfo, hi, hs]
  rw [hsz]
  simp only [Result.andThen, slicedAt, Int.toNat_natCast, Nat.mul_one]
  split <;> simp [Addr.add]

theorem made_one (z : Value) (n : Nat) : madeCells #[z] n = (List.replicate n z).toArray := by
  rw [← toList_madeCells_one]
theorem splice_all {α : Type} (L cs : List α) (h : cs.length = L.length) : splice L 0 cs = cs := by
  unfold splice; simp [h]

set_option maxHeartbeats 400000 in
theorem read_in {B F : Nat} {S : List Fr} (i off n : Int) (f : Fr) (w : World) (h : PhM w B F S) (hp : InP S i off n) (hf : S[i.toNat]? = some f) :
    Calls Try.prog 17 #[.pointer (some ⟨B, 0, none⟩), .int .i64 i, .int .i64 off, .int .i64 n] w fun e w' =>
      e = .returned (.tuple #[.slice (some ⟨w.heap.size, 0, none⟩) n.toNat n.toNat, .int .i64 0]) ∧ Mod No w w' ∧ w.heap.size < w'.heap.size ∧
      w'.heap[w.heap.size]? = some (.cells (((f.bytes.drop off.toNat).take n.toNat).map (Value.int .u8)).toArray 5 (0, 0)) := by
  have hp' := hp
  obtain ⟨⟨hi0, hi1⟩, ho, hn, hs⟩ := hp
  obtain ⟨o, rfl⟩ := Int.eq_ofNat_of_zero_le ho
  obtain ⟨m, rfl⟩ := Int.eq_ofNat_of_zero_le hn
  have hmk := run_make_row' (P := Try.prog) 33 5 (.int .u8 0) 1 Try.underlying33 Try.infoU8 rfl .i64 .i64 m (by omega) (by omega)
  obtain ⟨ad, had, hsl⟩ := slice_page o (i.toNat * 260 + 4) F (by omega)
  have hfo := h.ok f (List.mem_of_getElem? hf)
  obtain ⟨bs, hbs⟩ : ∃ bs, bs = (f.bytes.drop o).take m := ⟨_, rfl⟩
  have hlen : bs.length = m := by rw [hbs]; simp [hfo.1]; omega
  have hb : F < w.heap.size := by obtain ⟨r, hr⟩ := h.row; exact lt_of_blk hr
  have hcell : ∀ j b, bs[j]? = some b → w.cell? ⟨F, i.toNat * 260 + 4 + o + j, none⟩ = some (.int .u8 b) := by
    intro j b hj
    have hjm : j < m := by rw [← hlen]; exact (List.getElem?_eq_some_iff.1 hj).1
    have := h.cell hf (4 + o + j) (by omega)
    rw [show i.toNat * 260 + 4 + o + j = i.toNat * 260 + (4 + o + j) by omega, this, show 4 + o + j = (o + j) + 4 by omega]
    simp only [Fr.cells, List.getElem?_cons_succ, List.getElem?_map]
    rw [hbs, List.getElem?_take_of_lt hjm, List.getElem?_drop] at hj
    rw [hj]; rfl
  have HB := Lib.hid hbs; clear hbs
  have HC := Lib.hid hcell; clear hcell
  have HL := Lib.hid hlen; clear hlen
  go_enter Try.func17, Try.ntmps17
  go_wp2_with (first
    | (go_at_call 67; refine (part_in i o m _ h hp').mono ?_; rintro e w' ⟨rfl, rfl⟩)
    | (with_reducible refine wpList_copy_row rfl _ _ _ _ rfl 5 Try.underlying33 Try.sizeU8 _ _ _ _ _ _ rfl rfl w.heap.size 0 (List.replicate m (.int .u8 0)) 5 ?c1 (bs.map (Value.int .u8)) ?c2 ?c3 ?c4 (oneCell_u8 _) ?c5))
  case c1 => rw [heap_alloc_new, made_one]
  case c2 => rw [List.length_map, HL.out]; exact (Nat.min_eq_right (by omega)).symm
  case c3 =>
    intro hpos j a hj
    rw [HL.out] at hpos
    rw [had (by omega), Addr.add_lit, World.cell?_alloc_past _ _ _ hb]
    exact HC.out j a hj
  case c4 => rw [List.length_map, HL.out]; simp
  case c5 =>
    intro w' HG hm
    go_wp2
    go_ret2
    have hs := hm.size
    have hg := HG.out
    rw [splice_all _ _ (by rw [List.length_map, HL.out]; simp)] at hg
    refine ⟨rfl, ((Mod.refl No w).alloc _).step hm (fun k hk e => by cases e; omega), by simp at hs; omega, ?_⟩
    rw [hg, HB.out]; simp

theorem read_out {B F : Nat} {S : List Fr} (i off n : Int) (w : World) (h : PhM w B F S) (hp : ¬ InP S i off n) :
    Calls Try.prog 17 #[.pointer (some ⟨B, 0, none⟩), .int .i64 i, .int .i64 off, .int .i64 n] w fun e w' => e = .returned (.tuple #[.slice none 0 0, .int .i64 1]) ∧ w = w' := by
  go_enter Try.func17, Try.ntmps17
  go_wp2_with (go_at_call 67; refine (part_out i off n _ h hp).mono ?_; rintro e w' ⟨⟨p, rfl⟩, rfl⟩)
  go_ret2
  exact ⟨rfl, rfl⟩

theorem read_none {p : Option Addr} (i off n : Int) (w : World) (h : NoM w p) :
    Calls Try.prog 17 #[.pointer p, .int .i64 i, .int .i64 off, .int .i64 n] w fun e w' => e = .returned (.tuple #[.slice none 0 0, .int .i64 7]) ∧ w = w' := by
  go_enter Try.func17, Try.ntmps17
  go_wp2_with (go_at_call 67; refine (part_none i off n _ h).mono ?_; rintro e w' ⟨rfl, rfl⟩)
  go_ret2
  exact ⟨rfl, rfl⟩

/-- Bytes that a slice holds. -/
structure Src (w : World) (p : Option Addr) (bs : List Int) : Prop where
  range : ∀ b ∈ bs, 0 ≤ b ∧ b ≤ 255
  cells : 0 < bs.length → ∃ ad, p = some ad ∧ ∀ j b, bs[j]? = some b → w.cell? (ad.add j) = some (.int .u8 b)

theorem Src.nil (w : World) (p : Option Addr) : Src w p [] := ⟨by simp, by simp⟩

theorem write_out {B F : Nat} {S : List Fr} (i off : Int) (p : Option Addr) (n c : Nat) (w : World) (h : PhM w B F S) (hp : ¬ InP S i off n) :
    Calls Try.prog 22 #[.pointer (some ⟨B, 0, none⟩), .int .i64 i, .int .i64 off, .slice p n c] w fun e w' => e = .returned (.int .i64 1) ∧ w = w' := by
  go_enter Try.func22, Try.ntmps22
  go_wp2_with (go_at_call 67; refine (part_out i off n _ h hp).mono ?_; rintro e w' ⟨⟨p, rfl⟩, rfl⟩)
  go_ret
  exact ⟨rfl, rfl⟩

theorem write_none {p : Option Addr} (i off : Int) (q : Option Addr) (n c : Nat) (w : World) (h : NoM w p) :
    Calls Try.prog 22 #[.pointer p, .int .i64 i, .int .i64 off, .slice q n c] w fun e w' => e = .returned (.int .i64 7) ∧ w = w' := by
  go_enter Try.func22, Try.ntmps22
  go_wp2_with (go_at_call 67; refine (part_none i off n _ h).mono ?_; rintro e w' ⟨rfl, rfl⟩)
  go_ret
  exact ⟨rfl, rfl⟩

theorem write_free {B F : Nat} {S : List Fr} (i off : Int) (p : Option Addr) (n c : Nat) (f : Fr) (w : World) (h : PhM w B F S) (hp : InP S i off n) (hf : S[i.toNat]? = some f) (ho : f.owner = -1) :
    Calls Try.prog 22 #[.pointer (some ⟨B, 0, none⟩), .int .i64 i, .int .i64 off, .slice p n c] w fun e w' => e = .returned (.int .i64 11) ∧ w = w' := by
  have hc : w.cell? ⟨F, i.toNat * 260, none⟩ = some (.int .i64 (-1)) := by have := h.cell hf 0 (by omega); rw [← ho]; exact this
  clear ho
  go_enter Try.func22, Try.ntmps22
  go_wp2_with (go_at_call 67; refine (part_in i off n _ h hp).mono ?_; rintro e w' ⟨rfl, rfl⟩)
  go_ret
  exact ⟨rfl, rfl⟩

set_option maxHeartbeats 400000 in
theorem write_in {B F : Nat} {S : List Fr} (i off : Int) (p : Option Addr) (n c : Nat) (bs : List Int) (f : Fr) (w : World) (h : PhM w B F S) (hl : bs.length = n) (hp : InP S i off n) (hf : S[i.toNat]? = some f) (ho : f.owner ≠ -1) (hs : Src w p bs) :
    Calls Try.prog 22 #[.pointer (some ⟨B, 0, none⟩), .int .i64 i, .int .i64 off, .slice p n c] w fun e w' =>
      e = .returned (.int .i64 0) ∧ Mod (One F) w w' ∧ PhM w' B F (S.set i.toNat { f with bytes := splice f.bytes off.toNat bs }) := by
  have hp' := hp
  obtain ⟨⟨hi0, hi1⟩, hof, hn, hz⟩ := hp
  obtain ⟨o, rfl⟩ := Int.eq_ofNat_of_zero_le hof
  obtain ⟨ad, had, hsl⟩ := slice_page o (i.toNat * 260 + 4) F (by omega)
  have hc : w.cell? ⟨F, i.toNat * 260, none⟩ = some (.int .i64 f.owner) := h.cell hf 0 (by omega)
  have d1 : (f.owner == -1) = false := beq_eq_false_iff_ne.2 ho
  obtain ⟨r, hr⟩ := h.row
  have hfit : o + bs.length ≤ 256 := by omega
  have hlt : i.toNat < S.length := (List.getElem?_eq_some_iff.1 hf).1
  have hlen := allCells_len h.ok
  have HL := Lib.hid hl; clear hl
  have HN := Lib.hid hlen; clear hlen
  have HR := Lib.hid hr; clear hr
  go_enter Try.func22, Try.ntmps22
  go_wp2_with (first
    | (go_at_call 67; refine (part_in i o n _ h hp').mono ?_; rintro e w' ⟨rfl, rfl⟩)
    | (with_reducible refine wpList_copy_row rfl _ _ _ _ rfl 5 Try.underlying33 Try.sizeU8 _ _ _ _ _ _ rfl rfl F (i.toNat * 260 + 4 + o) (allCells S ++ r) 122 HR.out (bs.map (Value.int .u8)) ?c2 ?c3 ?c4 (oneCell_u8 _) ?c5))
  case c2 => rw [List.length_map, HL.out]; exact (Nat.min_eq_left (by omega)).symm
  case c3 =>
    intro hpos
    rw [List.length_map] at hpos
    obtain ⟨a, rfl, ha⟩ := hs.cells hpos
    refine ⟨by rw [had (by omega)], a, rfl, ?_⟩
    intro j v hj
    rw [List.getElem?_map] at hj
    cases hb : bs[j]? with
    | none => rw [hb] at hj; cases hj
    | some b => rw [hb] at hj; cases hj; exact ha j b hb
  case c4 => rw [List.length_map, List.length_append, HN.out]; omega
  case c5 =>
    intro w' HG hm
    go_wp2
    go_ret
    exact ⟨rfl, hm, h.splice hf hfit hs.range HG.out hm⟩

/-- What a machine says of a frame. -/
theorem frame_in {B F : Nat} {S : List Fr} (i : Int) (f : Fr) (w : World) (h : PhM w B F S) (hi : 0 ≤ i) (hf : S[i.toNat]? = some f) :
    Calls Try.prog 16 #[.pointer (some ⟨B, 0, none⟩), .int .i64 i] w fun e w' =>
      e = .returned (.tuple #[.agg #[.int .i64 f.owner, .int .i64 f.type, .int .i64 f.count, .int .i64 f.total], .int .i64 0]) ∧ Mod No w w' := by
  have hlt : i.toNat < S.length := (List.getElem?_eq_some_iff.1 hf).1
  have c0 : w.cell? ⟨F, i.toNat * 260, none⟩ = some (.int .i64 f.owner) := h.cell hf 0 (by omega)
  have c1 : w.cell? ⟨F, i.toNat * 260 + 1, none⟩ = some (.int .i64 f.type) := h.cell hf 1 (by omega)
  have c2 : w.cell? ⟨F, i.toNat * 260 + 2, none⟩ = some (.int .i64 f.count) := h.cell hf 2 (by omega)
  have c3 : w.cell? ⟨F, i.toNat * 260 + 3, none⟩ = some (.int .i64 f.total) := h.cell hf 3 (by omega)
  go_enter Try.func16, Try.ntmps16
  have hF := h.ltF
  go_wp2_with (go_at_call 66; refine (at_in i _ (h.alloc _) hi (by omega)).mono ?_; rintro e w' ⟨rfl, rfl⟩)
  exact bodyPost_ret (v := .tuple #[.agg #[.int .i64 f.owner, .int .i64 f.type, .int .i64 f.count, .int .i64 f.total], .int .i64 0]) (by simp [results, Try.results16, go_sem]) rfl ⟨rfl, (Mod.refl _ _).alloc _⟩

theorem frame_out {B F : Nat} {S : List Fr} (i : Int) (w : World) (h : PhM w B F S) (hi : i < 0 ∨ (S.length : Int) ≤ i) :
    Calls Try.prog 16 #[.pointer (some ⟨B, 0, none⟩), .int .i64 i] w fun e w' =>
      e = .returned (.tuple #[.agg #[.int .i64 0, .int .i64 0, .int .i64 0, .int .i64 0], .int .i64 1]) ∧ Mod No w w' := by
  go_enter Try.func16, Try.ntmps16
  go_wp2_with (go_at_call 66; refine (at_out i _ (h.alloc _) hi).mono ?_; rintro e w' ⟨rfl, rfl⟩)
  exact bodyPost_ret (v := .tuple #[.agg #[.int .i64 0, .int .i64 0, .int .i64 0, .int .i64 0], .int .i64 1]) (by simp [results, Try.results16, go_sem]) rfl ⟨rfl, (Mod.refl _ _).alloc _⟩

theorem frame_none {p : Option Addr} (i : Int) (w : World) (h : NoM w p) :
    Calls Try.prog 16 #[.pointer p, .int .i64 i] w fun e w' =>
      e = .returned (.tuple #[.agg #[.int .i64 0, .int .i64 0, .int .i64 0, .int .i64 0], .int .i64 7]) ∧ Mod No w w' := by
  go_enter Try.func16, Try.ntmps16
  go_wp2_with (go_at_call 66; refine (at_none i _ (h.alloc _)).mono ?_; rintro e w' ⟨rfl, rfl⟩)
  exact bodyPost_ret (v := .tuple #[.agg #[.int .i64 0, .int .i64 0, .int .i64 0, .int .i64 0], .int .i64 7]) (by simp [results, Try.results16, go_sem]) rfl ⟨rfl, (Mod.refl _ _).alloc _⟩

end Go.Proofs.Ythfkpbfapkpnfab

/- phys.Machine: Free, Give. -/
import Derived.Test.YthfkpbfapkpnfabPhysRef
import Derived.Deep.MidRow
namespace Go.Proofs.Ythfkpbfapkpnfab
open Go.RowKit
set_option maxRecDepth 100000

theorem splice_cons {α : Type} (L : List α) (o : Nat) (v : α) (vs : List α) (h : o + 1 + vs.length ≤ L.length) : splice (L.set o v) (o + 1) vs = splice L o (v :: vs) := by
  unfold splice
  have h1 : (L.set o v).take (o + 1) = L.take o ++ [v] := by
    rw [List.take_succ_eq_append_getElem (by simp; omega), List.take_set_of_le (Nat.le_refl _)]
    simp
  have h2 : (L.set o v).drop (o + 1 + vs.length) = L.drop (o + (v :: vs).length) := by
    rw [List.drop_set_of_lt (by omega), show o + 1 + vs.length = o + (v :: vs).length by simp; omega]
  rw [h1, h2]; simp

theorem row_setCells {g : Nat} {t : TypeId} : ∀ (vs : List Value) (o : Nat) (L : List Value) (w : World), w.heap[g]? = some (.cells L.toArray t (0, 0)) → o + vs.length ≤ L.length →
    (w.setCells g o vs).heap[g]? = some (.cells (splice L o vs).toArray t (0, 0)) ∧ Mod (One g) w (w.setCells g o vs)
  | [], o, L, w, h, _ => ⟨by simpa [splice, World.setCells] using h, Mod.refl _ _⟩
  | v :: vs, o, L, w, h, hl => by
    simp only [List.length_cons] at hl
    have h1 := row_set h o v
    obtain ⟨h2, h3⟩ := row_setCells vs (o + 1) (L.set o v) (w.setCell ⟨g, o, none⟩ v) h1 (by simp; omega)
    rw [splice_cons L o v vs (by omega)] at h2
    exact ⟨h2, ((Mod.refl (One g) w).set1 o v).trans h3⟩

theorem allCells_put : ∀ {S : List Fr}, okS S → ∀ (i : Nat) (f f' : Fr), S[i]? = some f → f'.ok → splice (allCells S) (i * 260) f'.cells = allCells (S.set i f')
  | [], _, i, f, f', hi, _ => by simp at hi
  | g :: S, h, 0, f, f', hi, hf => by
    have hg := Fr.len (h g (by simp))
    simp only [allCells, List.flatMap_cons, Nat.zero_mul, List.set_cons_zero]
    rw [splice_append_left _ _ _ _ (by rw [hg, Fr.len hf]; omega)]
    congr 1
    unfold splice; simp [hg, Fr.len hf]
  | g :: S, h, i + 1, f, f', hi, hf => by
    have hg := Fr.len (h g (by simp))
    have ih := allCells_put (S := S) (fun g hg => h g (by simp [hg])) i f f' (by simpa using hi) hf
    simp only [allCells, List.flatMap_cons, List.set_cons_succ] at ih ⊢
    have e : (i + 1) * 260 = g.cells.length + i * 260 := by rw [hg]; omega
    rw [e, splice_append_right, ih]

/-- A whole frame is stored. -/
theorem PhM.put {w : World} {B F : Nat} {S : List Fr} (h : PhM w B F S) {i : Nat} {f f' : Fr} (hi : S[i]? = some f) (hf : f'.ok) :
    PhM (w.setCells F (i * 260) f'.cells) B F (S.set i f') ∧ Mod (One F) w (w.setCells F (i * 260) f'.cells) := by
  obtain ⟨c, hc, h1⟩ := h.head
  obtain ⟨r, h2⟩ := h.row
  have hl := allCells_len h.ok
  have hlt : i < S.length := (List.getElem?_eq_some_iff.1 hi).1
  have hcl := Fr.len hf
  obtain ⟨h3, hm⟩ := row_setCells (f'.cells) (i * 260) _ w h2 (by simp [hl, hcl]; omega)
  rw [splice_append_left _ _ _ _ (by rw [hl, hcl]; omega), allCells_put h.ok i f f' hi hf] at h3
  exact ⟨⟨okS_set h.ok i hf, by simpa using h.len, ⟨c, by simpa using hc, by rw [hm.blk h1 (fun e => h.ne e)]; simp⟩, ⟨r, h3⟩⟩, hm⟩

theorem PhM.there {w : World} {B F : Nat} {S : List Fr} (h : PhM w B F S) {i : Nat} {f : Fr} (hi : S[i]? = some f) : w.there F (i * 260) 260 := by
  intro j hj
  have hf := Fr.len (h.ok f (List.mem_of_getElem? hi))
  refine ⟨?_, h.free _⟩
  rw [h.cell hi j hj]
  simp [hf, hj]

/-- A free frame, scrubbed. -/
def freeFr : Fr := ⟨-1, 0, 0, 0, List.replicate 256 0⟩
theorem freeFr_ok : freeFr.ok := ⟨by simp [freeFr], fun b hb => by simp [freeFr] at hb; omega⟩
def freeAgg : Array Value := freeFr.cells.toArray
theorem build_free (w : World) : (Instr.build 122 #[(0, .agg #[.int .i64 (-1), .int .i64 0, .int .i64 0, .int .i64 0])]).run Try.prog w = .ok (.agg freeAgg) w := by kernel_rfl
theorem Try.sizeFrame : (Try.prog.info? 122).map (·.size) = some freeAgg.size := by kernel_rfl
theorem freeAgg_one : freeAgg.all (·.oneCell') = true := by kernel_rfl
theorem freeAgg_size : freeAgg.size = 260 := by kernel_rfl
theorem freeAgg_list : freeAgg.toList = freeFr.cells := rfl

theorem free_out {B F : Nat} {S : List Fr} (i : Int) (w : World) (h : PhM w B F S) (hi : i < 0 ∨ (S.length : Int) ≤ i) :
    Calls Try.prog 18 #[.pointer (some ⟨B, 0, none⟩), .int .i64 i] w fun e w' => e = .returned (.int .i64 1) ∧ w = w' := by
  go_enter Try.func18, Try.ntmps18
  go_wp2_with (go_at_call 66; refine (at_out i _ h hi).mono ?_; rintro e w' ⟨rfl, rfl⟩)
  go_ret
  exact ⟨rfl, rfl⟩

theorem free_none {p : Option Addr} (i : Int) (w : World) (h : NoM w p) :
    Calls Try.prog 18 #[.pointer p, .int .i64 i] w fun e w' => e = .returned (.int .i64 7) ∧ w = w' := by
  go_enter Try.func18, Try.ntmps18
  go_wp2_with (go_at_call 66; refine (at_none i _ h).mono ?_; rintro e w' ⟨rfl, rfl⟩)
  go_ret
  exact ⟨rfl, rfl⟩

theorem free_err {B F : Nat} {S : List Fr} (i : Int) (f : Fr) (w : World) (h : PhM w B F S) (hi : 0 ≤ i) (hf : S[i.toNat]? = some f) (he : f.rest ≠ 0) :
    Calls Try.prog 18 #[.pointer (some ⟨B, 0, none⟩), .int .i64 i] w fun e w' => e = .returned (.int .i64 f.rest) ∧ w = w' := by
  have hlt : i.toNat < S.length := (List.getElem?_eq_some_iff.1 hf).1
  have c0 : w.cell? ⟨F, i.toNat * 260, none⟩ = some (.int .i64 f.owner) := h.cell hf 0 (by omega)
  have c3 : w.cell? ⟨F, i.toNat * 260 + 3, none⟩ = some (.int .i64 f.total) := h.cell hf 3 (by omega)
  have hr := rest_any f w c0 c3
  generalize f.rest = r at he hr ⊢
  have HR := Lib.hid hr; clear hr
  have d1 : (r == 0) = false := beq_eq_false_iff_ne.2 he
  go_enter Try.func18, Try.ntmps18
  go_wp2_with (first
    | (go_at_call 66; refine (at_in i _ h hi (by omega)).mono ?_; rintro e w' ⟨rfl, rfl⟩)
    | (go_at_call 68; refine HR.out.mono ?_; rintro e w' ⟨rfl, rfl⟩))
  go_ret
  exact ⟨rfl, rfl⟩

set_option maxHeartbeats 400000 in
theorem free_ok {B F : Nat} {S : List Fr} (i : Int) (f : Fr) (w : World) (h : PhM w B F S) (hi : 0 ≤ i) (hf : S[i.toNat]? = some f) (he : f.rest = 0) :
    Calls Try.prog 18 #[.pointer (some ⟨B, 0, none⟩), .int .i64 i] w fun e w' => e = .returned (.int .i64 0) ∧ Mod (One F) w w' ∧ PhM w' B F (S.set i.toNat freeFr) := by
  have hlt : i.toNat < S.length := (List.getElem?_eq_some_iff.1 hf).1
  have c0 : w.cell? ⟨F, i.toNat * 260, none⟩ = some (.int .i64 f.owner) := h.cell hf 0 (by omega)
  have c3 : w.cell? ⟨F, i.toNat * 260 + 3, none⟩ = some (.int .i64 f.total) := h.cell hf 3 (by omega)
  have hr := rest_any f w c0 c3
  rw [he] at hr
  have HR := Lib.hid hr; clear hr he
  have HT := h.there hf
  have hb := build_free
  have HP := Lib.hid (h.put hf freeFr_ok)
  go_enter Try.func18, Try.ntmps18
  go_wp2_with (first
    | (go_at_call 66; refine (at_in i _ h hi (by omega)).mono ?_; rintro e w' ⟨rfl, rfl⟩)
    | (go_at_call 68; refine HR.out.mono ?_; rintro e w' ⟨rfl, rfl⟩)
    | (with_reducible refine wpList_store_mid rfl 122 (.tmp 22) (.tmp 21) rfl F (i.toNat * 260) freeAgg rfl rfl (by rw [freeAgg_size]; exact HT) Try.sizeFrame freeAgg_one ?_; rw [freeAgg_list]; generalize hgw : w.setCells F (i.toNat * 260) freeFr.cells = w2 at HP ⊢; clear hgw))
  go_ret
  exact ⟨rfl, HP.out.2, HP.out.1⟩

theorem domain_yes (n : Int) (w : World) (h0 : 0 ≤ n) (h1 : n < 8) : Calls Try.prog 64 #[.int .i64 n] w fun e w' => e = .returned (.bool true) ∧ w = w' := by
  have d1 : decide (0 ≤ n) = true := decide_eq_true h0
  have d2 : decide (n < 8) = true := decide_eq_true h1
  go_enter Try.func64, Try.ntmps64
  go_wp2
  go_ret
  exact ⟨rfl, rfl⟩

theorem domain_no (n : Int) (w : World) (h : n < 0 ∨ 8 ≤ n) : Calls Try.prog 64 #[.int .i64 n] w fun e w' => e = .returned (.bool false) ∧ w = w' := by
  by_cases c : 0 ≤ n
  · have d1 : decide (0 ≤ n) = true := decide_eq_true c
    have d2 : decide (n < 8) = false := decide_eq_false (by omega)
    go_enter Try.func64, Try.ntmps64
    go_wp2
    go_ret
    exact ⟨rfl, rfl⟩
  · have d1 : decide (0 ≤ n) = false := decide_eq_false c
    go_enter Try.func64, Try.ntmps64
    go_wp2
    go_ret
    exact ⟨rfl, rfl⟩

theorem give_out {B F : Nat} {S : List Fr} (i n : Int) (w : World) (h : PhM w B F S) (hi : (i < 0 ∨ (S.length : Int) ≤ i) ∨ (n < 0 ∨ 8 ≤ n)) :
    Calls Try.prog 19 #[.pointer (some ⟨B, 0, none⟩), .int .i64 i, .int .i64 n] w fun e w' => e = .returned (.int .i64 1) ∧ w = w' := by
  by_cases hn : i < 0 ∨ (S.length : Int) ≤ i
  · go_enter Try.func19, Try.ntmps19
    go_wp2_with (go_at_call 66; refine (at_out i _ h hn).mono ?_; rintro e w' ⟨rfl, rfl⟩)
    go_ret
    exact ⟨rfl, rfl⟩
  · have hi0 : 0 ≤ i := by omega
    have hi1 : i < S.length := by omega
    have hd : n < 0 ∨ 8 ≤ n := by omega
    clear hi hn
    go_enter Try.func19, Try.ntmps19
    go_wp2_with (first
      | (go_at_call 66; refine (at_in i _ h hi0 hi1).mono ?_; rintro e w' ⟨rfl, rfl⟩)
      | (go_at_call 64; refine (domain_no n _ hd).mono ?_; rintro e w' ⟨rfl, rfl⟩))
    go_ret
    exact ⟨rfl, rfl⟩

theorem give_none {p : Option Addr} (i n : Int) (w : World) (h : NoM w p) :
    Calls Try.prog 19 #[.pointer p, .int .i64 i, .int .i64 n] w fun e w' => e = .returned (.int .i64 7) ∧ w = w' := by
  go_enter Try.func19, Try.ntmps19
  go_wp2_with (go_at_call 66; refine (at_none i _ h).mono ?_; rintro e w' ⟨rfl, rfl⟩)
  go_ret
  exact ⟨rfl, rfl⟩

theorem give_err {B F : Nat} {S : List Fr} (i n : Int) (f : Fr) (w : World) (h : PhM w B F S) (hi : 0 ≤ i) (hf : S[i.toNat]? = some f) (h0 : 0 ≤ n) (h1 : n < 8) (he : f.rest ≠ 0) :
    Calls Try.prog 19 #[.pointer (some ⟨B, 0, none⟩), .int .i64 i, .int .i64 n] w fun e w' => e = .returned (.int .i64 f.rest) ∧ w = w' := by
  have hlt : i.toNat < S.length := (List.getElem?_eq_some_iff.1 hf).1
  have c0 : w.cell? ⟨F, i.toNat * 260, none⟩ = some (.int .i64 f.owner) := h.cell hf 0 (by omega)
  have c3 : w.cell? ⟨F, i.toNat * 260 + 3, none⟩ = some (.int .i64 f.total) := h.cell hf 3 (by omega)
  have hr := rest_any f w c0 c3
  generalize f.rest = r at he hr ⊢
  have HR := Lib.hid hr; clear hr
  have d1 : (r == 0) = false := beq_eq_false_iff_ne.2 he
  go_enter Try.func19, Try.ntmps19
  go_wp2_with (first
    | (go_at_call 66; refine (at_in i _ h hi (by omega)).mono ?_; rintro e w' ⟨rfl, rfl⟩)
    | (go_at_call 64; refine (domain_yes n _ h0 h1).mono ?_; rintro e w' ⟨rfl, rfl⟩)
    | (go_at_call 68; refine HR.out.mono ?_; rintro e w' ⟨rfl, rfl⟩))
  go_ret
  exact ⟨rfl, rfl⟩

theorem give_ok {B F : Nat} {S : List Fr} (i n : Int) (f : Fr) (w : World) (h : PhM w B F S) (hi : 0 ≤ i) (hf : S[i.toNat]? = some f) (h0 : 0 ≤ n) (h1 : n < 8) (he : f.rest = 0) :
    Calls Try.prog 19 #[.pointer (some ⟨B, 0, none⟩), .int .i64 i, .int .i64 n] w fun e w' => e = .returned (.int .i64 0) ∧ Mod (One F) w w' ∧ PhM w' B F (S.set i.toNat { f with owner := n }) := by
  have hlt : i.toNat < S.length := (List.getElem?_eq_some_iff.1 hf).1
  have hfo := h.ok f (List.mem_of_getElem? hf)
  have c0 : w.cell? ⟨F, i.toNat * 260, none⟩ = some (.int .i64 f.owner) := h.cell hf 0 (by omega)
  have c3 : w.cell? ⟨F, i.toNat * 260 + 3, none⟩ = some (.int .i64 f.total) := h.cell hf 3 (by omega)
  have f0 := h.free (i.toNat * 260)
  have hr := rest_any f w c0 c3
  rw [he] at hr
  have HR := Lib.hid hr; clear hr he
  go_enter Try.func19, Try.ntmps19
  go_wp2_with (first
    | (go_at_call 66; refine (at_in i _ h hi (by omega)).mono ?_; rintro e w' ⟨rfl, rfl⟩)
    | (go_at_call 64; refine (domain_yes n _ h0 h1).mono ?_; rintro e w' ⟨rfl, rfl⟩)
    | (go_at_call 68; refine HR.out.mono ?_; rintro e w' ⟨rfl, rfl⟩))
  go_ret
  exact ⟨rfl, (Mod.refl _ _).set1 _ _, h.set (f' := { f with owner := n }) hf hfo 0 (by omega) (v := .int .i64 n) rfl⟩

end Go.Proofs.Ythfkpbfapkpnfab

/- tenementlaw01.play: Alloc, Read, Write; all. -/
import Derived.Test.YthfkpbfapkpnfabPlay2
namespace Go.Proofs.Ythfkpbfapkpnfab
open Go.RowKit
set_option maxRecDepth 100000

set_option maxHeartbeats 4000000 in
theorem play_write_nil {B F m : Nat} {K : RfK} {S : List Fr} (what a b c : Int) (w : World) (h : Two w B F K m S) (hwh : what < 0 ∨ 5 < what) :
    Calls Try.prog 30 #[.pointer (some ⟨B, 0, none⟩), .pointer (some ⟨K.R, 0, none⟩), .agg #[.int .i64 what, .int .i64 a, .int .i64 b, .int .i64 c, .slice none 0 0]] w fun e w' =>
      e = .returned (.bool true) ∧ TOut B F K (m + 1) S.length w w' := by
  obtain ⟨r, S', hl, hI', hPc, hRc⟩ := both_write m S a b [] (by simp) h.inv
  obtain ⟨hP, hR, hI⟩ := h
  have hI2 := hI'.mono (Nat.le_succ m)
  have HPC := Lib.hid hPc
  have HRC := Lib.hid hRc
  clear hPc hRc
  have e0 : (what == 0) = false := beq_eq_false_iff_ne.2 (by omega)
  have e1 : (what == 1) = false := beq_eq_false_iff_ne.2 (by omega)
  have e2 : (what == 2) = false := beq_eq_false_iff_ne.2 (by omega)
  have e3 : (what == 3) = false := beq_eq_false_iff_ne.2 (by omega)
  have e4 : (what == 4) = false := beq_eq_false_iff_ne.2 (by omega)
  have e5 : (what == 5) = false := beq_eq_false_iff_ne.2 (by omega)
  clear hwh
  have hbx : OpBox (w.alloc (.cells #[.int .i64 what, .int .i64 a, .int .i64 b, .int .i64 c, .slice none 0 0] 54)) w.heap.size what a b c none 0 0 := heap_alloc_new _ _
  have hP1 := hP.alloc (.cells #[.int .i64 what, .int .i64 a, .int .i64 b, .int .i64 c, .slice none 0 0] 54)
  have hR1 := hR.alloc (.cells #[.int .i64 what, .int .i64 a, .int .i64 b, .int .i64 c, .slice none 0 0] 54)
  have hm1 := (Mod.refl No w).alloc (.cells #[.int .i64 what, .int .i64 a, .int .i64 b, .int .i64 c, .slice none 0 0] 54)
  go_enter Try.func30, Try.ntmps30
  go_wp2_with fail
  generalize hbb : w.heap.size = bx at hbx ⊢
  generalize (w.alloc (.cells #[.int .i64 what, .int .i64 a, .int .i64 b, .int .i64 c, .slice none 0 0] 54)) = w1 at hbx hP1 hR1 hm1 ⊢
  have hS1 : (fun w' : World => w'.cell? ⟨bx, 1, none⟩ = some (.int .i64 a) ∧ w'.cell? ⟨bx, 2, none⟩ = some (.int .i64 b) ∧ w'.cell? ⟨bx, 4, none⟩ = some (.slice none 0 0)) w1 := ⟨hbx.cells.2.1, hbx.cells.2.2.1, hbx.cells.2.2.2.2⟩
  have hnF := hbx.ne hP1
  have hnR := hbx.neR hR1
  have HP1 := Lib.hid hP1
  have HR1 := Lib.hid hR1
  have HNF := Lib.hid hnF
  have HNR := Lib.hid hnR
  have HM0 := Lib.hid hm1
  have HI2 := Lib.hid hI2
  have hSA : (fun w' : World => w'.cell? ⟨bx, 1, none⟩ = some (.int .i64 a) ∧ w'.cell? ⟨bx, 2, none⟩ = some (.int .i64 b) ∧ w'.cell? ⟨bx, 4, none⟩ = some (.slice none 0 0)) (w1.alloc (.cells #[] 5)) :=
    ⟨(World.cell?_of_block (w := w1) (((Mod.refl No w1).alloc _).block bx (lt_of_blk hbx) (fun q => q))).trans hS1.1, (World.cell?_of_block (w := w1) (((Mod.refl No w1).alloc _).block bx (lt_of_blk hbx) (fun q => q))).trans hS1.2.1, (World.cell?_of_block (w := w1) (((Mod.refl No w1).alloc _).block bx (lt_of_blk hbx) (fun q => q))).trans hS1.2.2⟩
  have HM2 : Hid (Mod No w1 (w1.alloc (.cells #[] 5)).drew) := ((Mod.refl No w1).alloc _).drew
  clear hbx hP1 hR1 hm1 hnF hnR hI hI' hI2 hP hR
  go_region_held3 (fun w' => w'.cell? ⟨bx, 1, none⟩ = some (.int .i64 a) ∧ w'.cell? ⟨bx, 2, none⟩ = some (.int .i64 b) ∧ w'.cell? ⟨bx, 4, none⟩ = some (.slice none 0 0)) (first | exact hS1 | exact hSA | assumption) (first
    | (go_at_call 22; refine (HPC.out _ B F _ _ (HP1.out.kept HM2.out (fun q => q) (fun q => q)) (Src.nil _ _)).mono ?_; rintro e w3 hpo; have hre := hpo.1; subst hre; have HPO := Lib.hid hpo; have hS3 : (fun w' : World => w'.cell? ⟨bx, 1, none⟩ = some (.int .i64 a) ∧ w'.cell? ⟨bx, 2, none⟩ = some (.int .i64 b) ∧ w'.cell? ⟨bx, 4, none⟩ = some (.slice none 0 0)) w3 := ⟨(World.cell?_of_block (w := (w1.alloc (.cells #[] 5)).drew) (hpo.2.1.block bx (World.block_lt_of_cell? (w1.alloc (.cells #[] 5)).drew _ hSA.1) HNF.out)).trans hSA.1, (World.cell?_of_block (w := (w1.alloc (.cells #[] 5)).drew) (hpo.2.1.block bx (World.block_lt_of_cell? (w1.alloc (.cells #[] 5)).drew _ hSA.2.1) HNF.out)).trans hSA.2.1, (World.cell?_of_block (w := (w1.alloc (.cells #[] 5)).drew) (hpo.2.1.block bx (World.block_lt_of_cell? (w1.alloc (.cells #[] 5)).drew _ hSA.2.2) HNF.out)).trans hSA.2.2⟩; clear hpo)
    | (go_at_call 75; refine (HRC.out _ K none 0 ((HR1.out.keptNo HM2.out).kept HPO.out.2.1 (fun k hk (e : k = F) => (HR1.out.ne_phys HP1.out).2 (e ▸ hk))) (fun h0 => absurd h0 (Nat.lt_irrefl _))).mono ?_; rintro e w4 hro; have hre : e = .returned (.int .i64 r) := hro.choose_spec.1; subst hre; have HRO := Lib.hid hro; have hS4 : (fun w' : World => w'.cell? ⟨bx, 1, none⟩ = some (.int .i64 a) ∧ w'.cell? ⟨bx, 2, none⟩ = some (.int .i64 b) ∧ w'.cell? ⟨bx, 4, none⟩ = some (.slice none 0 0)) w4 := ⟨(World.cell?_of_block (w := w3) (hro.choose_spec.2.1.block bx (World.block_lt_of_cell? w3 _ hS3.1) HNR.out)).trans hS3.1, (World.cell?_of_block (w := w3) (hro.choose_spec.2.1.block bx (World.block_lt_of_cell? w3 _ hS3.2.1) HNR.out)).trans hS3.2.1, (World.cell?_of_block (w := w3) (hro.choose_spec.2.1.block bx (World.block_lt_of_cell? w3 _ hS3.2.2) HNR.out)).trans hS3.2.2⟩; clear hro))
  go_wp2
  go_ret
  exact ⟨rfl, hl ▸ tout_pr (HM0.out.trans HM2.out) (HR1.out.keptNo HM2.out) HPO.out HRO.out HI2.out (HP1.out.kept HM2.out (fun q => q) (fun q => q))⟩

/-- Bytes that a call hands in: nil, or apart from both machines. -/
def BtsQ (w : World) (F : Nat) (K : RfK) (q : Option Addr) (cap : Nat) (bs : List Int) : Prop := (q = none ∧ bs = [] ∧ cap = 0) ∨ ∃ ad, q = some ad ∧ Bts w F K q cap bs

theorem play_any {B F m : Nat} {K : RfK} {S : List Fr} (hm : m < 4611686018427387904) (what a b c : Int) (q : Option Addr) (bs : List Int) (cap : Nat) (w : World) (h : Two w B F K m S) (hb : BtsQ w F K q cap bs) (hlen : bs.length ≤ 140737488355328) :
    Calls Try.prog 30 #[.pointer (some ⟨B, 0, none⟩), .pointer (some ⟨K.R, 0, none⟩), .agg #[.int .i64 what, .int .i64 a, .int .i64 b, .int .i64 c, .slice q bs.length cap]] w fun e w' =>
      e = .returned (.bool true) ∧ TOut B F K (m + 1) S.length w w' := by
  by_cases h0 : what = 0
  · subst h0; exact play_alloc a b c q _ cap w h
  by_cases h1 : what = 1
  · subst h1; exact play_free hm a b c q _ cap w h
  by_cases h2 : what = 2
  · subst h2; exact play_give hm a b c q _ cap w h
  by_cases h3 : what = 3
  · subst h3; exact play_get hm a b c q _ cap w h
  by_cases h4 : what = 4
  · subst h4; exact play_put hm a b c q _ cap w h
  by_cases h5 : what = 5
  · subst h5; exact play_read a b c q _ cap w h
  rcases hb with ⟨rfl, rfl, rfl⟩ | ⟨ad, rfl, hb⟩
  · exact play_write_nil what a b c w h (by omega)
  · exact play_write what a b c ad bs cap w h hb hlen (by omega)

end Go.Proofs.Ythfkpbfapkpnfab

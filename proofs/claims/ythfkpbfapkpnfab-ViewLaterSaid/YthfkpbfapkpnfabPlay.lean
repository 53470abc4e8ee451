/- tenementlaw01.play: one call in both machines. -/
import Derived.Test.YthfkpbfapkpnfabBoth
import Derived.Deep.RegionHeld3
import Derived.BigQuiet
namespace Go.Proofs.Ythfkpbfapkpnfab
open Go.RowKit
set_option maxRecDepth 100000

/-- Where bytes lie that a call hands in: apart from both machines. -/
structure Bts (w : World) (F : Nat) (K : RfK) (q : Option Addr) (cap : Nat) (bs : List Int) : Prop where
  range : ∀ x ∈ bs, 0 ≤ x ∧ x ≤ 255
  cap : bs.length ≤ cap
  at_ : 0 < bs.length → ∃ b o, q = some ⟨b, o, none⟩ ∧ b ≠ F ∧ ¬ K.has b ∧ ∀ j x, bs[j]? = some x → w.cell? ⟨b, o + j, none⟩ = some (.int .u8 x)

/-- Both machines in one state. -/
structure Two (w : World) (B F : Nat) (K : RfK) (m : Nat) (S : List Fr) : Prop where
  p : PhM w B F S
  r : RfM w K S
  inv : invS m S

/-- What a call of both leaves. -/
def TOut (B F : Nat) (K : RfK) (m n : Nat) (w w' : World) : Prop := ∃ K' S', S'.length = n ∧ Two w' B F K' m S' ∧ K.grew K' w.heap.size ∧ Mod (fun k => k = F ∨ K.inn k) w w'

/-- The code's machine first. -/
theorem tout_pr {w w0 w1 w2 : World} {B F m : Nat} {K : RfK} {S S' : List Fr} {v1 v2 : Value} {e1 e2 : Ending} (hw : Mod No w w0) (hR : RfM w0 K S) (h1 : POut B F v1 S' w0 e1 w1) (h2 : ROut K v2 S' w1 e2 w2) (hI : invS m S') (hP : PhM w0 B F S) :
    TOut B F K m S'.length w w2 := by
  obtain ⟨_, m1, p1⟩ := h1
  obtain ⟨K', _, m2, g, r2⟩ := h2
  have hne := hR.ne_phys hP
  have hne1 := (hR.kept m1 (fun k hk (e : k = F) => hne.2 (e ▸ hk))).ne_phys p1
  have s0 := hw.size
  have s1 := m1.size
  refine ⟨K', S', rfl, ⟨p1.kept m2 (fun q => hne1.1 (RfK.inn_has q)) (fun q => hne1.2 (RfK.inn_has q)), r2, hI⟩, ⟨g.1, fun k hk => (g.2 k hk).imp id (fun q => by omega)⟩, ?_⟩
  exact ((Mod.of_no hw).trans (m1.mono (fun k _ e => .inl e))).trans (m2.mono (fun k _ e => .inr e))

/-- The document's first. -/
theorem tout_rp {w w0 w1 w2 : World} {B F m : Nat} {K K' : RfK} {S S' : List Fr} {v1 : Value} {e1 : Ending} (hw : Mod No w w0) (m2 : Mod K.inn w0 w1) (g : K.grew K' w0.heap.size) (r2 : RfM w1 K' S') (hp1 : PhM w1 B F S) (h1 : POut B F v1 S' w1 e1 w2) (hI : invS m S') :
    TOut B F K m S'.length w w2 := by
  obtain ⟨_, m1, p1⟩ := h1
  have hne1 := r2.ne_phys hp1
  have s0 := hw.size
  refine ⟨K', S', rfl, ⟨p1, r2.kept m1 (fun k hk (e : k = F) => hne1.2 (e ▸ hk)), hI⟩, ⟨g.1, fun k hk => (g.2 k hk).imp id (fun q => by omega)⟩, ?_⟩
  exact ((Mod.of_no hw).trans (m2.mono (fun k _ e => .inr e))).trans (m1.mono (fun k _ e => .inl e))

/-- A call's box. -/
def OpBox (w : World) (bx : Nat) (what a b c : Int) (q : Option Addr) (n cap : Nat) : Prop :=
  w.heap[bx]? = some (.cells #[.int .i64 what, .int .i64 a, .int .i64 b, .int .i64 c, .slice q n cap] 54 (0, 0))
theorem OpBox.cells {w : World} {bx : Nat} {what a b c : Int} {q : Option Addr} {n cap : Nat} (h : OpBox w bx what a b c q n cap) :
    w.cell? ⟨bx, 0, none⟩ = some (.int .i64 what) ∧ w.cell? ⟨bx, 1, none⟩ = some (.int .i64 a) ∧ w.cell? ⟨bx, 2, none⟩ = some (.int .i64 b) ∧ w.cell? ⟨bx, 3, none⟩ = some (.int .i64 c) ∧ w.cell? ⟨bx, 4, none⟩ = some (.slice q n cap) := by
  unfold OpBox at h
  refine ⟨?_, ?_, ?_, ?_, ?_⟩ <;> simp [World.cell?, h]
theorem OpBox.ne {w : World} {bx : Nat} {what a b c : Int} {q : Option Addr} {n cap B F : Nat} {S : List Fr} (h : OpBox w bx what a b c q n cap) (hP : PhM w B F S) : bx ≠ F := by
  obtain ⟨r, hr⟩ := hP.row
  intro e; unfold OpBox at h; rw [e, hr] at h; simp at h
theorem OpBox.neR {w : World} {bx : Nat} {what a b c : Int} {q : Option Addr} {n cap : Nat} {K : RfK} {S : List Fr} (h : OpBox w bx what a b c q n cap) (hR : RfM w K S) : ¬ K.inn bx := by
  unfold OpBox at h
  rintro (e | e | e)
  · obtain ⟨r, hr⟩ := hR.frow; rw [e, hr] at h; simp at h
  · obtain ⟨r, hr⟩ := hR.brow; rw [e, hr] at h; simp at h
  · obtain ⟨p, hp, rfl⟩ := List.mem_map.1 e
    obtain ⟨i, hi⟩ := List.getElem?_of_mem hp
    have hil := (List.getElem?_eq_some_iff.1 hi).1
    have hb := hR.bll
    obtain ⟨_, r, h1⟩ := hR.rows i _ p (List.getElem?_eq_getElem (by omega)) hi
    rw [h1] at h; simp at h

set_option maxHeartbeats 4000000 in
theorem play_free {B F m : Nat} {K : RfK} {S : List Fr} (_hm : m < 4611686018427387904) (a b c : Int) (q : Option Addr) (n cap : Nat) (w : World) (h : Two w B F K m S) :
    Calls Try.prog 30 #[.pointer (some ⟨B, 0, none⟩), .pointer (some ⟨K.R, 0, none⟩), .agg #[.int .i64 1, .int .i64 a, .int .i64 b, .int .i64 c, .slice q n cap]] w fun e w' =>
      e = .returned (.bool true) ∧ TOut B F K (m + 1) S.length w w' := by
  obtain ⟨r, S', hl, hI', hPc, hRc⟩ := both_free m S a h.inv
  obtain ⟨hP, hR, hI⟩ := h
  have hI2 := hI'.mono (Nat.le_succ m)
  have HPC := Lib.hid hPc
  have HRC := Lib.hid hRc
  clear hPc hRc
  have hbx : OpBox (w.alloc (.cells #[.int .i64 1, .int .i64 a, .int .i64 b, .int .i64 c, .slice q n cap] 54)) w.heap.size 1 a b c q n cap := heap_alloc_new _ _
  have hP1 := hP.alloc (.cells #[.int .i64 1, .int .i64 a, .int .i64 b, .int .i64 c, .slice q n cap] 54)
  have hR1 := hR.alloc (.cells #[.int .i64 1, .int .i64 a, .int .i64 b, .int .i64 c, .slice q n cap] 54)
  have hm1 := (Mod.refl No w).alloc (.cells #[.int .i64 1, .int .i64 a, .int .i64 b, .int .i64 c, .slice q n cap] 54)
  go_enter Try.func30, Try.ntmps30
  go_wp2_with fail
  generalize w.heap.size = bx at hbx ⊢
  generalize (w.alloc (.cells #[.int .i64 1, .int .i64 a, .int .i64 b, .int .i64 c, .slice q n cap] 54)) = w1 at hbx hP1 hR1 hm1 ⊢
  have hS1 : (fun w' : World => w'.cell? ⟨bx, 1, none⟩ = some (.int .i64 a)) w1 := hbx.cells.2.1
  have hnF := hbx.ne hP1
  have hnR := hbx.neR hR1
  have hm0 := hm1.drew
  have HP1 := Lib.hid hP1
  have HR1 := Lib.hid hR1
  have HNF := Lib.hid hnF
  have HNR := Lib.hid hnR
  have HM0 := Lib.hid hm0
  have HI2 := Lib.hid hI2
  clear hbx hP1 hR1 hm1 hm0 hnF hnR hI hI' hI2 hP hR
  go_region_held3 (fun w' => w'.cell? ⟨bx, 1, none⟩ = some (.int .i64 a)) (first | exact hS1 | assumption) (first
    | (go_at_call 18; refine (HPC.out _ B F (HP1.out.kept ((Mod.refl No _).drew) (fun q => q) (fun q => q))).mono ?_; rintro e w2 hpo; have hre := hpo.1; subst hre; have HPO := Lib.hid hpo; have hS2 : (fun w' : World => w'.cell? ⟨bx, 1, none⟩ = some (.int .i64 a)) w2 := (World.cell?_of_block (w := w1) ((fun q => hpo.2.1.block bx q HNF.out) (World.block_lt_of_cell? w1 _ hS1))).trans hS1; clear hpo)
    | (go_at_call 70; refine (HRC.out _ K ((HR1.out.keptNo ((Mod.refl No _).drew)).kept HPO.out.2.1 (fun k hk (e : k = F) => (HR1.out.ne_phys HP1.out).2 (e ▸ hk)))).mono ?_; rintro e w3 hro; have hre : e = .returned (.int .i64 r) := hro.choose_spec.1; subst hre; have HRO := Lib.hid hro; have hS3 : (fun w' : World => w'.cell? ⟨bx, 1, none⟩ = some (.int .i64 a)) w3 := (World.cell?_of_block (w := w2) ((fun q => hro.choose_spec.2.1.block bx q HNR.out) (World.block_lt_of_cell? w2 _ hS2))).trans hS2; clear hro))
  go_wp2
  go_ret
  exact ⟨rfl, hl ▸ tout_pr HM0.out (HR1.out.keptNo ((Mod.refl No _).drew)) HPO.out HRO.out HI2.out (HP1.out.kept ((Mod.refl No _).drew) (fun q => q) (fun q => q))⟩

set_option maxHeartbeats 4000000 in
theorem play_give {B F m : Nat} {K : RfK} {S : List Fr} (_hm : m < 4611686018427387904) (a b c : Int) (q : Option Addr) (n cap : Nat) (w : World) (h : Two w B F K m S) :
    Calls Try.prog 30 #[.pointer (some ⟨B, 0, none⟩), .pointer (some ⟨K.R, 0, none⟩), .agg #[.int .i64 2, .int .i64 a, .int .i64 b, .int .i64 c, .slice q n cap]] w fun e w' =>
      e = .returned (.bool true) ∧ TOut B F K (m + 1) S.length w w' := by
  obtain ⟨r, S', hl, hI', hPc, hRc⟩ := both_give m S a b h.inv
  obtain ⟨hP, hR, hI⟩ := h
  have hI2 := hI'.mono (Nat.le_succ m)
  have HPC := Lib.hid hPc
  have HRC := Lib.hid hRc
  clear hPc hRc
  have hbx : OpBox (w.alloc (.cells #[.int .i64 2, .int .i64 a, .int .i64 b, .int .i64 c, .slice q n cap] 54)) w.heap.size 2 a b c q n cap := heap_alloc_new _ _
  have hP1 := hP.alloc (.cells #[.int .i64 2, .int .i64 a, .int .i64 b, .int .i64 c, .slice q n cap] 54)
  have hR1 := hR.alloc (.cells #[.int .i64 2, .int .i64 a, .int .i64 b, .int .i64 c, .slice q n cap] 54)
  have hm1 := (Mod.refl No w).alloc (.cells #[.int .i64 2, .int .i64 a, .int .i64 b, .int .i64 c, .slice q n cap] 54)
  go_enter Try.func30, Try.ntmps30
  go_wp2_with fail
  generalize w.heap.size = bx at hbx ⊢
  generalize (w.alloc (.cells #[.int .i64 2, .int .i64 a, .int .i64 b, .int .i64 c, .slice q n cap] 54)) = w1 at hbx hP1 hR1 hm1 ⊢
  have hS1 : (fun w' : World => w'.cell? ⟨bx, 1, none⟩ = some (.int .i64 a) ∧ w'.cell? ⟨bx, 2, none⟩ = some (.int .i64 b)) w1 := ⟨hbx.cells.2.1, hbx.cells.2.2.1⟩
  have hnF := hbx.ne hP1
  have hnR := hbx.neR hR1
  have hm0 := hm1.drew
  have HP1 := Lib.hid hP1
  have HR1 := Lib.hid hR1
  have HNF := Lib.hid hnF
  have HNR := Lib.hid hnR
  have HM0 := Lib.hid hm0
  have HI2 := Lib.hid hI2
  clear hbx hP1 hR1 hm1 hm0 hnF hnR hI hI' hI2 hP hR
  go_region_held3 (fun w' => w'.cell? ⟨bx, 1, none⟩ = some (.int .i64 a) ∧ w'.cell? ⟨bx, 2, none⟩ = some (.int .i64 b)) (first | exact hS1 | assumption) (first
    | (go_at_call 19; refine (HPC.out _ B F (HP1.out.kept ((Mod.refl No _).drew) (fun q => q) (fun q => q))).mono ?_; rintro e w2 hpo; have hre := hpo.1; subst hre; have HPO := Lib.hid hpo; have hS2 : (fun w' : World => w'.cell? ⟨bx, 1, none⟩ = some (.int .i64 a) ∧ w'.cell? ⟨bx, 2, none⟩ = some (.int .i64 b)) w2 := ⟨(World.cell?_of_block (w := w1) ((fun q => hpo.2.1.block bx q HNF.out) (World.block_lt_of_cell? w1 _ hS1.1))).trans hS1.1, (World.cell?_of_block (w := w1) ((fun q => hpo.2.1.block bx q HNF.out) (World.block_lt_of_cell? w1 _ hS1.2))).trans hS1.2⟩; clear hpo)
    | (go_at_call 71; refine (HRC.out _ K ((HR1.out.keptNo ((Mod.refl No _).drew)).kept HPO.out.2.1 (fun k hk (e : k = F) => (HR1.out.ne_phys HP1.out).2 (e ▸ hk)))).mono ?_; rintro e w3 hro; have hre : e = .returned (.int .i64 r) := hro.choose_spec.1; subst hre; have HRO := Lib.hid hro; have hS3 : (fun w' : World => w'.cell? ⟨bx, 1, none⟩ = some (.int .i64 a) ∧ w'.cell? ⟨bx, 2, none⟩ = some (.int .i64 b)) w3 := ⟨(World.cell?_of_block (w := w2) ((fun q => hro.choose_spec.2.1.block bx q HNR.out) (World.block_lt_of_cell? w2 _ hS2.1))).trans hS2.1, (World.cell?_of_block (w := w2) ((fun q => hro.choose_spec.2.1.block bx q HNR.out) (World.block_lt_of_cell? w2 _ hS2.2))).trans hS2.2⟩; clear hro))
  go_wp2
  go_ret
  exact ⟨rfl, hl ▸ tout_pr HM0.out (HR1.out.keptNo ((Mod.refl No _).drew)) HPO.out HRO.out HI2.out (HP1.out.kept ((Mod.refl No _).drew) (fun q => q) (fun q => q))⟩

set_option maxHeartbeats 4000000 in
theorem play_get {B F m : Nat} {K : RfK} {S : List Fr} (_hm : m < 4611686018427387904) (a b c : Int) (q : Option Addr) (n cap : Nat) (w : World) (h : Two w B F K m S) :
    Calls Try.prog 30 #[.pointer (some ⟨B, 0, none⟩), .pointer (some ⟨K.R, 0, none⟩), .agg #[.int .i64 3, .int .i64 a, .int .i64 b, .int .i64 c, .slice q n cap]] w fun e w' =>
      e = .returned (.bool true) ∧ TOut B F K (m + 1) S.length w w' := by
  obtain ⟨r, S', hl, hI', hPc, hRc⟩ := both_get m _hm S a b c h.inv
  obtain ⟨hP, hR, hI⟩ := h
  have hI2 := hI'
  have HPC := Lib.hid hPc
  have HRC := Lib.hid hRc
  clear hPc hRc
  have hbx : OpBox (w.alloc (.cells #[.int .i64 3, .int .i64 a, .int .i64 b, .int .i64 c, .slice q n cap] 54)) w.heap.size 3 a b c q n cap := heap_alloc_new _ _
  have hP1 := hP.alloc (.cells #[.int .i64 3, .int .i64 a, .int .i64 b, .int .i64 c, .slice q n cap] 54)
  have hR1 := hR.alloc (.cells #[.int .i64 3, .int .i64 a, .int .i64 b, .int .i64 c, .slice q n cap] 54)
  have hm1 := (Mod.refl No w).alloc (.cells #[.int .i64 3, .int .i64 a, .int .i64 b, .int .i64 c, .slice q n cap] 54)
  go_enter Try.func30, Try.ntmps30
  go_wp2_with fail
  generalize w.heap.size = bx at hbx ⊢
  generalize (w.alloc (.cells #[.int .i64 3, .int .i64 a, .int .i64 b, .int .i64 c, .slice q n cap] 54)) = w1 at hbx hP1 hR1 hm1 ⊢
  have hS1 : (fun w' : World => w'.cell? ⟨bx, 1, none⟩ = some (.int .i64 a) ∧ w'.cell? ⟨bx, 2, none⟩ = some (.int .i64 b) ∧ w'.cell? ⟨bx, 3, none⟩ = some (.int .i64 c)) w1 := ⟨hbx.cells.2.1, hbx.cells.2.2.1, hbx.cells.2.2.2.1⟩
  have hnF := hbx.ne hP1
  have hnR := hbx.neR hR1
  have hm0 := hm1.drew
  have HP1 := Lib.hid hP1
  have HR1 := Lib.hid hR1
  have HNF := Lib.hid hnF
  have HNR := Lib.hid hnR
  have HM0 := Lib.hid hm0
  have HI2 := Lib.hid hI2
  clear hbx hP1 hR1 hm1 hm0 hnF hnR hI hI' hI2 hP hR
  go_region_held3 (fun w' => w'.cell? ⟨bx, 1, none⟩ = some (.int .i64 a) ∧ w'.cell? ⟨bx, 2, none⟩ = some (.int .i64 b) ∧ w'.cell? ⟨bx, 3, none⟩ = some (.int .i64 c)) (first | exact hS1 | assumption) (first
    | (go_at_call 20; refine (HPC.out _ B F (HP1.out.kept ((Mod.refl No _).drew) (fun q => q) (fun q => q))).mono ?_; rintro e w2 hpo; have hre := hpo.1; subst hre; have HPO := Lib.hid hpo; have hS2 : (fun w' : World => w'.cell? ⟨bx, 1, none⟩ = some (.int .i64 a) ∧ w'.cell? ⟨bx, 2, none⟩ = some (.int .i64 b) ∧ w'.cell? ⟨bx, 3, none⟩ = some (.int .i64 c)) w2 := ⟨(World.cell?_of_block (w := w1) ((fun q => hpo.2.1.block bx q HNF.out) (World.block_lt_of_cell? w1 _ hS1.1))).trans hS1.1, (World.cell?_of_block (w := w1) ((fun q => hpo.2.1.block bx q HNF.out) (World.block_lt_of_cell? w1 _ hS1.2.1))).trans hS1.2.1, (World.cell?_of_block (w := w1) ((fun q => hpo.2.1.block bx q HNF.out) (World.block_lt_of_cell? w1 _ hS1.2.2))).trans hS1.2.2⟩; clear hpo)
    | (go_at_call 72; refine (HRC.out _ K ((HR1.out.keptNo ((Mod.refl No _).drew)).kept HPO.out.2.1 (fun k hk (e : k = F) => (HR1.out.ne_phys HP1.out).2 (e ▸ hk)))).mono ?_; rintro e w3 hro; have hre : e = .returned (.int .i64 r) := hro.choose_spec.1; subst hre; have HRO := Lib.hid hro; have hS3 : (fun w' : World => w'.cell? ⟨bx, 1, none⟩ = some (.int .i64 a) ∧ w'.cell? ⟨bx, 2, none⟩ = some (.int .i64 b) ∧ w'.cell? ⟨bx, 3, none⟩ = some (.int .i64 c)) w3 := ⟨(World.cell?_of_block (w := w2) ((fun q => hro.choose_spec.2.1.block bx q HNR.out) (World.block_lt_of_cell? w2 _ hS2.1))).trans hS2.1, (World.cell?_of_block (w := w2) ((fun q => hro.choose_spec.2.1.block bx q HNR.out) (World.block_lt_of_cell? w2 _ hS2.2.1))).trans hS2.2.1, (World.cell?_of_block (w := w2) ((fun q => hro.choose_spec.2.1.block bx q HNR.out) (World.block_lt_of_cell? w2 _ hS2.2.2))).trans hS2.2.2⟩; clear hro))
  go_wp2
  go_ret
  exact ⟨rfl, hl ▸ tout_pr HM0.out (HR1.out.keptNo ((Mod.refl No _).drew)) HPO.out HRO.out HI2.out (HP1.out.kept ((Mod.refl No _).drew) (fun q => q) (fun q => q))⟩

set_option maxHeartbeats 4000000 in
theorem play_put {B F m : Nat} {K : RfK} {S : List Fr} (_hm : m < 4611686018427387904) (a b c : Int) (q : Option Addr) (n cap : Nat) (w : World) (h : Two w B F K m S) :
    Calls Try.prog 30 #[.pointer (some ⟨B, 0, none⟩), .pointer (some ⟨K.R, 0, none⟩), .agg #[.int .i64 4, .int .i64 a, .int .i64 b, .int .i64 c, .slice q n cap]] w fun e w' =>
      e = .returned (.bool true) ∧ TOut B F K (m + 1) S.length w w' := by
  obtain ⟨r, S', hl, hI', hPc, hRc⟩ := both_put m _hm S a c h.inv
  obtain ⟨hP, hR, hI⟩ := h
  have hI2 := hI'.mono (Nat.le_succ m)
  have HPC := Lib.hid hPc
  have HRC := Lib.hid hRc
  clear hPc hRc
  have hbx : OpBox (w.alloc (.cells #[.int .i64 4, .int .i64 a, .int .i64 b, .int .i64 c, .slice q n cap] 54)) w.heap.size 4 a b c q n cap := heap_alloc_new _ _
  have hP1 := hP.alloc (.cells #[.int .i64 4, .int .i64 a, .int .i64 b, .int .i64 c, .slice q n cap] 54)
  have hR1 := hR.alloc (.cells #[.int .i64 4, .int .i64 a, .int .i64 b, .int .i64 c, .slice q n cap] 54)
  have hm1 := (Mod.refl No w).alloc (.cells #[.int .i64 4, .int .i64 a, .int .i64 b, .int .i64 c, .slice q n cap] 54)
  go_enter Try.func30, Try.ntmps30
  go_wp2_with fail
  generalize w.heap.size = bx at hbx ⊢
  generalize (w.alloc (.cells #[.int .i64 4, .int .i64 a, .int .i64 b, .int .i64 c, .slice q n cap] 54)) = w1 at hbx hP1 hR1 hm1 ⊢
  have hS1 : (fun w' : World => w'.cell? ⟨bx, 1, none⟩ = some (.int .i64 a) ∧ w'.cell? ⟨bx, 3, none⟩ = some (.int .i64 c)) w1 := ⟨hbx.cells.2.1, hbx.cells.2.2.2.1⟩
  have hnF := hbx.ne hP1
  have hnR := hbx.neR hR1
  have hm0 := hm1.drew
  have HP1 := Lib.hid hP1
  have HR1 := Lib.hid hR1
  have HNF := Lib.hid hnF
  have HNR := Lib.hid hnR
  have HM0 := Lib.hid hm0
  have HI2 := Lib.hid hI2
  clear hbx hP1 hR1 hm1 hm0 hnF hnR hI hI' hI2 hP hR
  go_region_held3 (fun w' => w'.cell? ⟨bx, 1, none⟩ = some (.int .i64 a) ∧ w'.cell? ⟨bx, 3, none⟩ = some (.int .i64 c)) (first | exact hS1 | assumption) (first
    | (go_at_call 21; refine (HPC.out _ B F (HP1.out.kept ((Mod.refl No _).drew) (fun q => q) (fun q => q))).mono ?_; rintro e w2 hpo; have hre := hpo.1; subst hre; have HPO := Lib.hid hpo; have hS2 : (fun w' : World => w'.cell? ⟨bx, 1, none⟩ = some (.int .i64 a) ∧ w'.cell? ⟨bx, 3, none⟩ = some (.int .i64 c)) w2 := ⟨(World.cell?_of_block (w := w1) ((fun q => hpo.2.1.block bx q HNF.out) (World.block_lt_of_cell? w1 _ hS1.1))).trans hS1.1, (World.cell?_of_block (w := w1) ((fun q => hpo.2.1.block bx q HNF.out) (World.block_lt_of_cell? w1 _ hS1.2))).trans hS1.2⟩; clear hpo)
    | (go_at_call 73; refine (HRC.out _ K ((HR1.out.keptNo ((Mod.refl No _).drew)).kept HPO.out.2.1 (fun k hk (e : k = F) => (HR1.out.ne_phys HP1.out).2 (e ▸ hk)))).mono ?_; rintro e w3 hro; have hre : e = .returned (.int .i64 r) := hro.choose_spec.1; subst hre; have HRO := Lib.hid hro; have hS3 : (fun w' : World => w'.cell? ⟨bx, 1, none⟩ = some (.int .i64 a) ∧ w'.cell? ⟨bx, 3, none⟩ = some (.int .i64 c)) w3 := ⟨(World.cell?_of_block (w := w2) ((fun q => hro.choose_spec.2.1.block bx q HNR.out) (World.block_lt_of_cell? w2 _ hS2.1))).trans hS2.1, (World.cell?_of_block (w := w2) ((fun q => hro.choose_spec.2.1.block bx q HNR.out) (World.block_lt_of_cell? w2 _ hS2.2))).trans hS2.2⟩; clear hro))
  go_wp2
  go_ret
  exact ⟨rfl, hl ▸ tout_pr HM0.out (HR1.out.keptNo ((Mod.refl No _).drew)) HPO.out HRO.out HI2.out (HP1.out.kept ((Mod.refl No _).drew) (fun q => q) (fun q => q))⟩

end Go.Proofs.Ythfkpbfapkpnfab

/- path.Perms: what it gives comes back as the text. (Printed by wip/gen_perm.py.) -/
import Derived.Test.YthchkhfnhhpleaaDoorPermPure
import Derived.Test.YthchkhfnhhpleaaDoorPathNamed
import Derived.Test.YthchkhfnhhpleaaDoorPathShelf
import Derived.Test.YthchkhfnhhpleaaDoorPathParse2
import Derived.IntWalk
namespace Go.Proofs.YthchkhfnhhpleaaDoor
open Go.RowKit Go.Shelf
set_option maxRecDepth 100000

/-- What is there at a place: a letter, a digit or a comma must come. -/
def PState (L : List UInt8) (vw : Value) (i : Nat) (acc : List Pm) (rd wt : Bool) : Prop :=
  (vw = .int .i64 0 ∧ L.take i = preP acc) ∨ (vw = .int .i64 1 ∧ acc.length < 8 ∧ L.take i = preP acc ++ [(Pm.mk 0 rd wt).letter]) ∨ (vw = .int .i64 2 ∧ acc ≠ [] ∧ L.take i = joinWith 44 (acc.map Pm.text))

/-- What Perms gives. -/
def PermPost (w : World) (s : ByteArray) (e : Ending) (w' : World) : Prop :=
  ∃ (v : Value) (n er : Int), e = .returned (.tuple #[v, .int .i64 n, .int .i64 er]) ∧ Mod No w w' ∧ (er = 0 → ∃ (acc : List Pm) (p : Option Addr) (cap : Nat), v = .slice p acc.length cap ∧ acc.length ≤ cap ∧ PmS w' p acc ∧ textR acc = (s.data.toList, 0))
theorem PermPost.bad {w w' : World} {s : ByteArray} {n er : Int} (hm : Mod No w w') (he : er ≠ 0) (v : Value) : PermPost w s (.returned (.tuple #[v, .int .i64 n, .int .i64 er])) w' := ⟨v, n, er, rfl, hm, fun h => absurd h he⟩

theorem iterAt_one (wr : World) (k : Nat) (s : ByteArray) (pos : Nat) : Mod (One k) wr (wr.iterAt k s pos) :=
  ⟨rfl, rfl, rfl, by simp [World.iterAt], fun j _ hn => by
    have hn' : k ≠ j := fun e => hn e.symm
    simp [World.iterAt, hn']⟩

/-- The row of permissions, the one that is being read, the letters' place. -/
structure PW (w : World) (s : ByteArray) (vl : Value) (acc : List Pm) (i : Nat) (dom : Int) (rd wt : Bool) (w' : World) : Prop where
  row : w'.ownsRow (w.heap.size + 2) 60 3 vl acc.length (pmCells acc)
  p : w'.heap[w.heap.size]? = some (.cells #[.int .i64 dom, .bool rd, .bool wt] 60 (0, 0))
  it : w'.heap[w.heap.size + 1]? = some (.stringIter s i)
  mod : Mod No w w'
theorem PW.put0 {w : World} {s : ByteArray} {vl : Value} {acc : List Pm} {i : Nat} {dom : Int} {rd wt : Bool} {w2 : World} (h : PW w s vl acc i dom rd wt w2) (d : Int) : PW w s vl acc i d rd wt (w2.setCell ⟨w.heap.size, 0, none⟩ (.int .i64 d)) := by
  have hm : Mod (One w.heap.size) w2 (w2.setCell ⟨w.heap.size, 0, none⟩ (.int .i64 d)) := (Mod.refl _ w2).set1 0 _
  exact ⟨own_modQ h.row hm (fun j hj (q : j = w.heap.size) => by omega), row_set h.p 0 _, hm.blk h.it (fun (q : w.heap.size + 1 = w.heap.size) => by omega), h.mod.step hm (fun k hk (q : k = w.heap.size) => by omega)⟩
theorem PW.put1 {w : World} {s : ByteArray} {vl : Value} {acc : List Pm} {i : Nat} {dom : Int} {rd wt : Bool} {w2 : World} (h : PW w s vl acc i dom rd wt w2) (d : Bool) : PW w s vl acc i dom d wt (w2.setCell ⟨w.heap.size, 1, none⟩ (.bool d)) := by
  have hm : Mod (One w.heap.size) w2 (w2.setCell ⟨w.heap.size, 1, none⟩ (.bool d)) := (Mod.refl _ w2).set1 1 _
  exact ⟨own_modQ h.row hm (fun j hj (q : j = w.heap.size) => by omega), row_set h.p 1 _, hm.blk h.it (fun (q : w.heap.size + 1 = w.heap.size) => by omega), h.mod.step hm (fun k hk (q : k = w.heap.size) => by omega)⟩
theorem PW.put2 {w : World} {s : ByteArray} {vl : Value} {acc : List Pm} {i : Nat} {dom : Int} {rd wt : Bool} {w2 : World} (h : PW w s vl acc i dom rd wt w2) (d : Bool) : PW w s vl acc i dom rd d (w2.setCell ⟨w.heap.size, 2, none⟩ (.bool d)) := by
  have hm : Mod (One w.heap.size) w2 (w2.setCell ⟨w.heap.size, 2, none⟩ (.bool d)) := (Mod.refl _ w2).set1 2 _
  exact ⟨own_modQ h.row hm (fun j hj (q : j = w.heap.size) => by omega), row_set h.p 2 _, hm.blk h.it (fun (q : w.heap.size + 1 = w.heap.size) => by omega), h.mod.step hm (fun k hk (q : k = w.heap.size) => by omega)⟩
theorem PW.no {w : World} {s : ByteArray} {vl : Value} {acc : List Pm} {i : Nat} {dom : Int} {rd wt : Bool} {w2 w3 : World} (h : PW w s vl acc i dom rd wt w2) (hm : Mod No w2 w3) : PW w s vl acc i dom rd wt w3 :=
  ⟨own_modQ h.row hm (fun _ _ q => q), hm.blk h.p (fun q => q), hm.blk h.it (fun q => q), h.mod.trans hm⟩
theorem PW.iter {w : World} {s : ByteArray} {vl : Value} {acc : List Pm} {i : Nat} {dom : Int} {rd wt : Bool} {w2 : World} (h : PW w s vl acc i dom rd wt w2) (j : Nat) : PW w s vl acc j dom rd wt (w2.iterAt (w.heap.size + 1) s j) := by
  have hm := iterAt_one w2 (w.heap.size + 1) s j
  exact ⟨own_modQ h.row hm (fun k hk (q : k = w.heap.size + 1) => by omega), hm.blk h.p (fun (q : w.heap.size = w.heap.size + 1) => by omega), Lib.iterAt_heap w2 (w.heap.size + 1) s i j h.it, h.mod.step hm (fun k hk (q : k = w.heap.size + 1) => by omega)⟩
theorem PW.grow {w : World} {s : ByteArray} {vl v' : Value} {acc acc' : List Pm} {i : Nat} {dom : Int} {rd wt : Bool} {w2 w3 : World} (h : PW w s vl acc i dom rd wt w2) (hg : w2.grownBy w3 vl.ownBlock) (hr : w3.ownsRow (w.heap.size + 2) 60 3 v' acc'.length (pmCells acc')) : PW w s v' acc' i dom rd wt w3 := by
  have hm : Mod (fun j => vl.ownBlock = some j) w2 w3 := (Mod.refl _ w2).grown hg (fun j ej _ => ej)
  have hlo : ∀ j, vl.ownBlock = some j → w.heap.size + 2 ≤ j := fun j ej => (h.row.lt j ej).1
  exact ⟨hr, hm.blk h.p (fun q => by have := hlo _ q; omega), hm.blk h.it (fun q => by have := hlo _ q; omega), h.mod.step hm (fun k hk q => by have := hlo _ q; omega)⟩
theorem PW.pos {w : World} {s : ByteArray} {vl : Value} {acc : List Pm} {i : Nat} {dom : Int} {rd wt : Bool} {w2 : World} (h : PW w s vl acc i dom rd wt w2) : w2.iterPos (w.heap.size + 1) = i := by simp only [World.iterPos, h.it]

set_option maxHeartbeats 16000000 in
theorem perms_any (s : ByteArray) (w : World) :
    Calls Tryd.prog 25 #[.string s] w (PermPost w s) := by
  obtain ⟨L, hL⟩ : ∃ L, L = s.data.toList := ⟨_, rfl⟩
  have HL := Lib.hid hL
  clear hL
  obtain ⟨i0, hi0, hz0, hz1, hz2⟩ := Tryd.infoPerm
  go_enter Tryd.func25, Tryd.ntmps25
  go_wp2_with fail
  go_loopw [5, 7, 8] (fun vl vb vw wr => ∃ (i : Nat) (acc : List Pm) (dom : Int) (rd wt : Bool) (bg : Int), vb = .int .i64 bg ∧ i ≤ s.size ∧ PW w s vl acc i dom rd wt wr ∧ (∀ o ∈ acc, (Lit.int .i64 o.dom).wf = true) ∧ acc.length ≤ 8 ∧ goodP [] acc = true ∧ PState L vw i acc rd wt) (fun _ _ _ wr => s.size - wr.iterPos (w.heap.size + 1))
  case atStart =>
    have h1 : Mod No (w.alloc (.cells #[.int .i64 0, .bool false, .bool false] 60)) ((w.alloc (.cells #[.int .i64 0, .bool false, .bool false] 60)).iter s 0) := (Mod.refl _ _).alloc _
    refine ⟨0, [], 0, false, false, 0, rfl, Nat.zero_le _, ⟨World.ownsRow_nil _ _ _ _, h1.blk (heap_alloc_new w _) (fun q => q), ?_, ((Mod.refl _ w).alloc _).trans h1⟩, by simp, by simp, rfl, .inl ⟨rfl, rfl⟩⟩
    have h2 := heap_alloc_new (w.alloc (.cells #[.int .i64 0, .bool false, .bool false] 60)) (.stringIter s 0)
    rwa [World.size_alloc] at h2
  case round =>
    obtain ⟨i, acc, dom, rd, wt, bg, rfl, hi, hpw, hwf, h8, hg, hst⟩ := hrel
    have hits := hpw.pos
    have HITS := Lib.hid hits
    have HPW := Lib.hid hpw
    have HWF := Lib.hid hwf
    have HG := Lib.hid hg
    have hit := hpw.it
    obtain ⟨gp, gc, rfl⟩ := owns_sl hpw.row
    clear hwf hits
    by_cases hlt : i < s.size
    · obtain ⟨b, hb⟩ : ∃ b, b = s[i]'hlt := ⟨_, rfl⟩
      have htk : L.take (i + 1) = L.take i ++ [b] := by
        have h1 : L[i]? = some b := by
          have h2 := drop_at s i hlt
          rw [← HL.out, ← hb] at h2
          have h3 := congrArg (fun l : List UInt8 => l[0]?) h2
          simp only [List.getElem?_drop, Nat.add_zero] at h3
          rw [h3]; rfl
        rw [List.take_add_one, h1]; rfl
      have HTK := Lib.hid htk
      clear htk
      by_cases h128 : b.toNat < 128
      · have hnx := fun ty => Lib.run_next_ascii_at (P := Tryd.prog) wr (w.heap.size + 1) s i ty hit hlt (by rw [← hb]; exact h128)
        rw [← hb] at hnx
        have HPW1 := Lib.hid (hpw.iter (i + 1))
        generalize wr.iterAt (w.heap.size + 1) s (i + 1) = w1 at hnx HPW1
        clear hpw hit hb
        rcases hst with ⟨rfl, hst⟩ | ⟨rfl, ha, hst⟩ | ⟨rfl, ha, hst⟩
        · have HST := Lib.hid hst
          have HIX : Hid (∀ w', Calls Tryd.prog 35 #[.string ⟨#[110, 114, 119, 98]⟩, .int .u8 (b.toNat : Int)] w' fun e w2 => e = .returned (.int .i64 (idxP b)) ∧ w2 = w') := fun w' => by
            have := Tryd.strings_IndexByte ⟨#[110, 114, 119, 98]⟩ (b.toNat : Int) w'
            have hbb : ((b.toNat : Int).toNat).toUInt8 = b := by simp
            rw [hbb] at this
            exact this
          have hix := idxP_cases b
          generalize idxP b = ix at hix HIX
          have hb8 : IntKind.u8.wrap (b.toNat : Int) = (b.toNat : Int) := IntWalk.u8_in _ (by omega)
          have hb9 : (b.toNat : Int) % 256 = (b.toNat : Int) := by omega
          have hb7 : (b.toNat : Int) < 128 := by omega
          by_cases h8e : acc.length = 8
          · have h8b : ((acc.length : Int) == 8) = true := by rw [h8e]; rfl
            clear hst hg HST hix h8e h8
            go_wp2_with (go_at_call 35; refine (HIX.out _).mono ?_; rintro e w2 ⟨rfl, rfl⟩)
            go_ret3
            exact PermPost.bad HPW1.out.mod (by decide) _
          · have h8b : ((acc.length : Int) == 8) = false := beq_eq_false_iff_ne.2 (by omega)
            have h8l : acc.length < 8 := by omega
            clear hst hg h8e
            have c0 := row_cell HPW1.out.p 0
            have c1 := row_cell HPW1.out.p 1
            have c2 := row_cell HPW1.out.p 2
            have f0 := row_free HPW1.out.p 0
            have f1 := row_free HPW1.out.p 1
            have f2 := row_free HPW1.out.p 2
            rcases hix with rfl | ⟨hbl, rfl⟩ | ⟨hbl, rfl⟩ | ⟨hbl, rfl⟩ | ⟨hbl, rfl⟩
            · go_wp2_with (go_at_call 35; refine (HIX.out _).mono ?_; rintro e w2 ⟨rfl, rfl⟩)
              go_ret3
              exact PermPost.bad HPW1.out.mod (by decide) _
            · have HBL : Hid (L.take (i + 1) = preP acc ++ [(Pm.mk 0 false false).letter]) := by rw [HTK.out, HST.out, hbl]; exact rfl
              clear hbl
              have g1 : bits BinOp.and IntKind.i64 0 1 = 0 := by decide +kernel
              have g2 : bits BinOp.and IntKind.i64 0 2 = 0 := by decide +kernel
              go_wp2_with (go_at_call 35; refine (HIX.out _).mono ?_; rintro e w2 ⟨rfl, rfl⟩)
              have HE := Lib.hid (((HPW1.out.put0 0).put1 false).put2 false)
              exact ⟨⟨i + 1, acc, 0, false, false, i, rfl, by omega, HE.out, HWF.out, by omega, HG.out, .inr (.inl ⟨rfl, by omega, HBL.out⟩)⟩, by rw [HE.out.pos, HITS.out]; omega⟩
            · have HBL : Hid (L.take (i + 1) = preP acc ++ [(Pm.mk 0 true false).letter]) := by rw [HTK.out, HST.out, hbl]; exact rfl
              clear hbl
              have g1 : bits BinOp.and IntKind.i64 1 1 = 1 := by decide +kernel
              have g2 : bits BinOp.and IntKind.i64 1 2 = 0 := by decide +kernel
              go_wp2_with (go_at_call 35; refine (HIX.out _).mono ?_; rintro e w2 ⟨rfl, rfl⟩)
              have HE := Lib.hid (((HPW1.out.put0 0).put1 true).put2 false)
              exact ⟨⟨i + 1, acc, 0, true, false, i, rfl, by omega, HE.out, HWF.out, by omega, HG.out, .inr (.inl ⟨rfl, by omega, HBL.out⟩)⟩, by rw [HE.out.pos, HITS.out]; omega⟩
            · have HBL : Hid (L.take (i + 1) = preP acc ++ [(Pm.mk 0 false true).letter]) := by rw [HTK.out, HST.out, hbl]; exact rfl
              clear hbl
              have g1 : bits BinOp.and IntKind.i64 2 1 = 0 := by decide +kernel
              have g2 : bits BinOp.and IntKind.i64 2 2 = 2 := by decide +kernel
              go_wp2_with (go_at_call 35; refine (HIX.out _).mono ?_; rintro e w2 ⟨rfl, rfl⟩)
              have HE := Lib.hid (((HPW1.out.put0 0).put1 false).put2 true)
              exact ⟨⟨i + 1, acc, 0, false, true, i, rfl, by omega, HE.out, HWF.out, by omega, HG.out, .inr (.inl ⟨rfl, by omega, HBL.out⟩)⟩, by rw [HE.out.pos, HITS.out]; omega⟩
            · have HBL : Hid (L.take (i + 1) = preP acc ++ [(Pm.mk 0 true true).letter]) := by rw [HTK.out, HST.out, hbl]; exact rfl
              clear hbl
              have g1 : bits BinOp.and IntKind.i64 3 1 = 1 := by decide +kernel
              have g2 : bits BinOp.and IntKind.i64 3 2 = 2 := by decide +kernel
              go_wp2_with (go_at_call 35; refine (HIX.out _).mono ?_; rintro e w2 ⟨rfl, rfl⟩)
              have HE := Lib.hid (((HPW1.out.put0 0).put1 true).put2 true)
              exact ⟨⟨i + 1, acc, 0, true, true, i, rfl, by omega, HE.out, HWF.out, by omega, HG.out, .inr (.inl ⟨rfl, by omega, HBL.out⟩)⟩, by rw [HE.out.pos, HITS.out]; omega⟩
        · have HST := Lib.hid hst
          by_cases hdg : 48 ≤ b.toNat ∧ b.toNat < 56
          · obtain ⟨d, hd⟩ : ∃ d : Int, d = (b.toNat : Int) - 48 := ⟨_, rfl⟩
            have t1 : decide ((b.toNat : Int) < 48) = false := decide_eq_false (by omega)
            have t2 : decide ((56 : Int) ≤ (b.toNat : Int)) = false := decide_eq_false (by omega)
            have t3 : IntKind.i32.wrap ((b.toNat : Int) - 48) = d := by rw [← hd]; exact IntWalk.i32_in _ (by omega)
            have t4 : IntKind.i64.wrap d = d := IntWalk.i64_in _ (by omega)
            have hd0 : 0 ≤ d := by omega
            have hd7 : d < 8 := by omega
            have c0 := row_cell HPW1.out.p 0
            have f0 := row_free HPW1.out.p 0
            have HPW2 := Lib.hid (HPW1.out.put0 d)
            obtain ⟨pp, pc, epp, hpc, _, hps⟩ := pms_own HPW2.out.row HWF.out
            cases epp
            have HNA : Hid (Calls Tryd.prog 33 #[.slice gp acc.length gc, .int .i64 d] (w1.setCell ⟨w.heap.size, 0, none⟩ (.int .i64 d)) fun e w2 => e = .returned (.bool (namedP acc d)) ∧ Mod No (w1.setCell ⟨w.heap.size, 0, none⟩ (.int .i64 d)) w2) := pnamed_any gp acc gc d _ hps (by omega)
            have HTX : Hid (joinWith 44 ((acc ++ [Pm.mk d rd wt]).map Pm.text) = L.take (i + 1)) := by
              rw [preP_snoc, HTK.out, HST.out, List.append_assoc]
              congr 1
              have hdt := digit_text (d := b) hdg rd wt ((Pm.mk 0 rd wt).letter) rfl
              rw [← hd] at hdt
              rw [hdt]
              rfl
            have HD := Lib.hid hd
            by_cases hnm : namedP acc d = true
            · rw [hnm] at HNA
              clear hst hg hdg hd hps hnm hpc
              go_wp2_with fail
              refine HNA.out.mono ?_
              rintro e w3 ⟨rfl, hm3⟩
              have HPW3 := Lib.hid (HPW2.out.no hm3)
              clear hm3
              go_wp2_with fail
              go_ret3
              exact PermPost.bad HPW3.out.mod (by decide) _
            · have hnf : namedP acc d = false := by simpa using hnm
              rw [hnf] at HNA
              have HG2 : Hid (goodP [] (acc ++ [Pm.mk d rd wt]) = true) := goodP_app acc [] ⟨d, rd, wt⟩ HG.out ⟨hd0, hd7⟩ hnf
              have HWF2 : Hid (∀ o ∈ acc ++ [Pm.mk d rd wt], (Lit.int .i64 o.dom).wf = true) := by
                intro o ho
                rcases List.mem_append.1 ho with ho | ho
                · exact HWF.out o ho
                · rw [List.mem_singleton.1 ho]
                  have : d = 0 ∨ d = 1 ∨ d = 2 ∨ d = 3 ∨ d = 4 ∨ d = 5 ∨ d = 6 ∨ d = 7 := by omega
                  rcases this with e | e | e | e | e | e | e | e <;> (simp only [e]; decide +kernel)
              clear hst hg hdg hd hps hnm hnf hpc
              go_wp2_with fail
              refine HNA.out.mono ?_
              rintro e w3 ⟨rfl, hm3⟩
              have HPW3 := Lib.hid (HPW2.out.no hm3)
              clear hm3 c0 f0
              have c0 := row_cell HPW3.out.p 0
              have c1 := row_cell HPW3.out.p 1
              have c2 := row_cell HPW3.out.p 2
              have hsz3 := HPW3.out.mod.size
              have HPW4 := Lib.hid (HPW3.out.no ((Mod.refl No w3).alloc (.cells #[.int .i64 d, .bool rd, .bool wt] 60)))
              have hlt3 := lt_of_blk HPW3.out.it
              go_wp2_with (at_builtin; refine wpList_append_own_wide _ rfl _ _ 37 rfl (w.heap.size + 2) 60 i0 (.agg #[.int .i64 0, .bool false, .bool false]) 3 16 Tryd.underlying37 hi0 hz0 hz1 hz2 rfl (by decide) (.slice gp acc.length gc) acc.length (pmCells acc) rfl HPW4.out.row ⟨w3.heap.size, 0, none⟩ 1 1 (Pm.mk d rd wt).cells rfl rfl (fun j u hj => by rw [Addr.add_lit, Nat.zero_add, row_cell (heap_alloc_new w3 (.cells #[.int .i64 d, .bool rd, .bool wt] 60))]; exact hj) (by intro u hu; simp only [Pm.cells, List.mem_cons, List.not_mem_nil, or_false] at hu; rcases hu with rfl | rfl | rfl <;> rfl) (by unfold maxLen; omega) (by omega) (by rw [World.size_alloc]; omega) ?_; intro v' w5 hown5 hgr5 _)
              have hown6 : w5.ownsRow (w.heap.size + 2) 60 3 v' (acc ++ [Pm.mk d rd wt]).length (pmCells (acc ++ [Pm.mk d rd wt])) := by
                have e1 : pmCells (acc ++ [Pm.mk d rd wt]) = pmCells acc ++ (Pm.mk d rd wt).cells := by simp [pmCells]
                rw [e1, List.length_append, List.length_singleton]
                exact hown5
              have HPW5 := Lib.hid (HPW4.out.grow hgr5 hown6)
              clear hown5 hown6 hgr5
              go_wp2_with fail
              exact ⟨⟨i + 1, acc ++ [Pm.mk d rd wt], d, rd, wt, bg, rfl, by omega, HPW5.out, HWF2.out, by rw [List.length_append, List.length_singleton]; omega, HG2.out, .inr (.inr ⟨rfl, by simp, HTX.out.symm⟩)⟩, by rw [HPW5.out.pos, HITS.out]; omega⟩
          · by_cases hlow : b.toNat < 48
            · have t1 : decide ((b.toNat : Int) < 48) = true := decide_eq_true (by omega)
              clear hst hg hdg hlow
              go_wp2_with fail
              go_ret3
              exact PermPost.bad HPW1.out.mod (by decide) _
            · have t1 : decide ((b.toNat : Int) < 48) = false := decide_eq_false (by omega)
              have t2 : decide ((56 : Int) ≤ (b.toNat : Int)) = true := decide_eq_true (by omega)
              clear hst hg hdg hlow
              go_wp2_with fail
              go_ret3
              exact PermPost.bad HPW1.out.mod (by decide) _
        · have HST := Lib.hid hst
          by_cases hcm : b.toNat = 44
          · have t1 : ((b.toNat : Int) != 44) = false := by rw [hcm]; rfl
            have hb44 : b = 44 := by rw [← UInt8.toNat_inj, hcm]; rfl
            have HTX : Hid (L.take (i + 1) = preP acc) := by rw [HTK.out, HST.out, preP_next ha, hb44]; exact rfl
            clear hst hg hcm hb44
            go_wp2_with fail
            exact ⟨⟨i + 1, acc, dom, rd, wt, bg, rfl, by omega, HPW1.out, HWF.out, by omega, HG.out, .inl ⟨rfl, HTX.out⟩⟩, by rw [HPW1.out.pos, HITS.out]; omega⟩
          · have t1 : ((b.toNat : Int) != 44) = true := bne_iff_ne.2 (by omega)
            clear hst hg hcm
            go_wp2_with fail
            go_ret3
            exact PermPost.bad HPW1.out.mod (by decide) _
      · have hnx := fun ty => Lib.run_next_any_at (P := Tryd.prog) wr (w.heap.size + 1) s i ty hit hlt
        have hbig := decode_big s i hlt (by rw [← hb]; omega)
        have HPW1 := Lib.hid (hpw.iter (i + (Utf8.decode s i).2))
        generalize (Utf8.decode s i).1 = dc at hnx hbig
        generalize (Utf8.decode s i).2 = dw at hnx HPW1
        generalize wr.iterAt (w.heap.size + 1) s (i + dw) = w1 at hnx HPW1
        have hdc : ¬ (dc : Int) < 128 := by omega
        have t1 : decide ((dc : Int) < 48) = false := decide_eq_false (by omega)
        have t2 : decide ((56 : Int) ≤ (dc : Int)) = true := decide_eq_true (by omega)
        have t3 : ((dc : Int) != 44) = true := bne_iff_ne.2 (by omega)
        clear hpw hit hb
        rcases hst with ⟨rfl, hst⟩ | ⟨rfl, ha, hst⟩ | ⟨rfl, ha, hst⟩
        · have h8b : ((acc.length : Int) == 8) = true ∨ ((acc.length : Int) == 8) = false := by cases ((acc.length : Int) == 8) <;> simp
          rcases h8b with h8b | h8b
          all_goals (
            clear hst hg hbig h128
            go_wp2_with fail
            go_ret3
            exact PermPost.bad HPW1.out.mod (by decide) _)
        all_goals (
          clear hst hg hbig h128
          go_wp2_with fail
          go_ret3
          exact PermPost.bad HPW1.out.mod (by decide) _)
    · have hie : i = s.size := by omega
      have hnx := fun ty => Lib.run_next_end_at (P := Tryd.prog) wr (w.heap.size + 1) s i ty hit hlt
      have hfull : L.take i = L := by rw [HL.out, hie]; exact List.take_of_length_le (by simp)
      rcases hst with ⟨rfl, hst⟩ | ⟨rfl, ha, hst⟩ | ⟨rfl, ha, hst⟩
      · have h8b : ((acc.length : Int) == 8) = true ∨ ((acc.length : Int) == 8) = false := by cases ((acc.length : Int) == 8) <;> simp
        rcases h8b with h8b | h8b
        all_goals (
          clear hst hfull hg hpw hit
          go_wp2_with fail
          go_ret3
          exact PermPost.bad HPW.out.mod (by decide) _)
      · clear hst hfull hg hpw hit
        go_wp2_with fail
        go_ret3
        exact PermPost.bad HPW.out.mod (by decide) _
      · have HST : Hid (textR acc = (L, 0)) := by rw [textR_good ha h8 hg, ← hst, hfull]; exact rfl
        clear hst hfull hg hpw hit
        go_wp2_with fail
        go_ret3
        obtain ⟨pp, cc, e1, e2, _, e3⟩ := pms_own HPW.out.row HWF.out
        exact ⟨_, _, _, rfl, HPW.out.mod, fun _ => ⟨acc, pp, cc, e1, e2, e3, by rw [HST.out, HL.out]⟩⟩

end Go.Proofs.YthchkhfnhhpleaaDoor

/- cons.Console.Lines, Rest; the law's comparison of texts. -/
import Derived.Test.YtmdeljacbekbpaaDoorConsDW
import Derived.Test.YtmdeljacbekbpaaDoorRefShow
import Derived.Laws.AppendOwnNone
import Derived.Deep.DeepAppendWide
import Derived.RegionTactic
import Derived.ChangeAlike
namespace Go.Proofs.YtmdeljacbekbpaaDoor
open Go.RowKit
set_option maxRecDepth 100000

/-- A slice of texts. -/
def SlT (w : World) (v : Value) (ts : List ByteArray) : Prop :=
  (∃ q cap, v = .slice q ts.length cap) ∧ ∀ i t, ts[i]? = some t → ∃ bq off cap, v = .slice (some ⟨bq, off, none⟩) ts.length cap ∧ w.cell? ⟨bq, off + i, none⟩ = some (.string t)
theorem SlT.kept {w w' : World} {v : Value} {ts : List ByteArray} (h : SlT w v ts) (hm : Mod No w w') : SlT w' v ts := by
  refine ⟨h.1, fun i t ht => ?_⟩
  obtain ⟨bq, off, cap, e, hc⟩ := h.2 i t ht
  exact ⟨bq, off, cap, e, (World.cell?_of_block (w := w) (hm.block _ (World.block_lt_of_cell? w _ hc) (fun q => q))).trans hc⟩
theorem SlT.own {w : World} {b0 : Nat} {v : Value} {ts : List ByteArray} (h : w.ownsRow b0 9 1 v ts.length (ts.map Value.string)) : SlT w v ts := by
  refine ⟨owns_slice h, fun i t ht => ?_⟩
  rcases h.2 with ⟨_, h0⟩ | ⟨g, cap, cur, rfl, hg, r⟩
  · rw [List.eq_nil_of_length_eq_zero h0] at ht; simp at ht
  · refine ⟨g, 0, cap, rfl, ?_⟩
    have := h.cells (g := g) rfl i (.string t) (by simp [ht])
    rwa [Addr.add_lit] at this
theorem lines_map (ls : List (List Int)) : ls.map lineV = (ls.map lineT).map Value.string := by rw [List.map_map]; rfl

/-- Lines: all that are done. -/
theorem lines_any {b b0 : Nat} {c : Co} {lv pv : Value} {s : List (List Int) × List Int} (w : World) (h : CoM w b c lv pv) (hl : LP w b0 lv pv s.1 s.2) (hn : s.1.length * 16 ≤ 140737488355328) :
    Calls Tryd.prog 20 #[.pointer (some ⟨b, 0, none⟩)] w fun e w' => ∃ v, e = .returned v ∧ SlT w' v (s.1.map lineT) ∧ Mod No w w' := by
  have c0 : w.cell? ⟨b, 0, none⟩ = some (.bool true) := h.at_ 0
  have c12 : w.cell? ⟨b, 12, none⟩ = some lv := h.at_ 12
  have HN := Lib.hid (cnone_yes b w c0)
  obtain ⟨i0, hi, hz0, hz1, hz2⟩ := info_parts Tryd.infoStr
  have hrow := hl.rl
  rcases hrow.2 with ⟨rfl, h0⟩ | ⟨g, cap, cur, rfl, hg, hr, hcc, r⟩
  · have hs : s.1 = [] := List.eq_nil_of_length_eq_zero h0
    rw [hs]
    clear h hl hrow
    go_enter Tryd.func20, Tryd.ntmps20
    go_wp2_with (first
      | (go_at_call 38; refine HN.out.mono ?_; rintro e w' ⟨rfl, rfl⟩)
      | (at_builtin; refine wpList_append_own_none rfl _ _ 46 rfl w.heap.size 9 i0 1 Tryd.underlying46 hi (.slice none 0 0) 0 [] rfl (World.ownsRow_nil _ _ _ _) rfl ?_))
    go_ret
    exact ⟨_, rfl, SlT.own (b0 := 0) (World.ownsRow_nil _ _ _ _), Mod.refl _ _⟩
  · have hcells : ∀ j u, (s.1.map lineV)[j]? = some u → w.cell? ((⟨g, 0, none⟩ : Addr).add j) = some u := hrow.cells (g := g) rfl
    have HCE := Lib.hid hcells
    have hone : ∀ u ∈ s.1.map lineV, u.oneCell' = true := fun u hu => by
      obtain ⟨x, _, rfl⟩ := List.mem_map.1 hu; rfl
    have HONE := Lib.hid hone
    clear h hl hrow hr r hcells hone
    go_enter Tryd.func20, Tryd.ntmps20
    go_wp2_with (first
      | (go_at_call 38; refine HN.out.mono ?_; rintro e w' ⟨rfl, rfl⟩)
      | (at_builtin; refine wpList_append_own_wide _ rfl _ _ 46 rfl w.heap.size 9 i0 (.string ⟨#[]⟩) 1 16 Tryd.underlying46 hi hz0 hz1 hz2 rfl (by decide) (.slice none 0 0) 0 [] rfl (World.ownsRow_nil _ _ _ _) ⟨g, 0, none⟩ s.1.length cap (s.1.map lineV) rfl (by simp) HCE.out HONE.out (by unfold maxLen; omega) (by omega) (Nat.le_refl _) ?_; intro v' w5 hown5 hgr5 _; have HOW := Lib.hid hown5; have HGR := Lib.hid hgr5; clear hown5 hgr5))
    have hown := HOW.out
    rw [List.nil_append, Nat.zero_add] at hown
    obtain ⟨q5, c5, rfl⟩ := owns_slice hown
    go_wp2_with fail
    go_ret
    refine ⟨_, rfl, SlT.own (b0 := w.heap.size) ?_, (Mod.refl _ w).grown HGR.out (fun j ej _ => by cases ej)⟩
    rw [List.length_map, ← lines_map]; exact hown

/-- Rest: what has come of the next one. -/
theorem crest_any {b b0 : Nat} {c : Co} {lv pv : Value} {s : List (List Int) × List Int} (w : World) (h : CoM w b c lv pv) (hl : LP w b0 lv pv s.1 s.2) (hT : Lib.Utf8Tabs 0 1 w) (hp : s.2.length < 128) :
    Calls Tryd.prog 21 #[.pointer (some ⟨b, 0, none⟩)] w fun e w' => e = .returned (.string (lineT s.2)) ∧ Mod No w w' := by
  have c0 : w.cell? ⟨b, 0, none⟩ = some (.bool true) := h.at_ 0
  have HN := Lib.hid (cnone_yes b w c0)
  obtain ⟨gp, cp, rfl⟩ := owns_slice hl.rp
  have c13 : w.cell? ⟨b, 13, none⟩ = some (.slice gp s.2.length cp) := h.at_ 13
  have HSH := Lib.hid (show_any gp s.2 cp w (Byt.ofOwn hl.rp hl.rng (by omega)).2.1 hT (by omega))
  clear h hl
  go_enter Tryd.func21, Tryd.ntmps21
  go_wp2_with (go_at_call 38; refine HN.out.mono ?_; rintro e w' ⟨rfl, rfl⟩)
  refine HSH.out.mono ?_
  rintro e w2 ⟨rfl, hb2⟩
  have HM : Hid (Mod No w w2) := Mod.of_below hb2
  clear hb2
  go_wp2
  go_ret
  exact ⟨rfl, HM.out⟩

set_option maxHeartbeats 4000000 in
/-- Two lists of the same texts. -/
theorem texts_same (va vb : Value) (xs : List ByteArray) (w : World) (ha : SlT w va xs) (hb : SlT w vb xs) (h8 : xs.length ≤ 140737488355328) :
    Calls Tryd.prog 19 #[va, vb] w fun e w' => e = .returned (.bool true) ∧ Mod No w w' := by
  obtain ⟨ga, ca, rfl⟩ := ha.1
  obtain ⟨gb, cb, rfl⟩ := hb.1
  have HTA := Lib.hid ha
  have HTB := Lib.hid hb
  clear ha hb
  go_enter Tryd.func19, Tryd.ntmps19
  go_wp2_with fail
  go_loopw [5] (fun vi wr => ∃ i : Nat, vi = .int .i64 i ∧ i ≤ xs.length ∧ Mod No w wr) (fun vi _ => xs.length - (intOf vi).toNat)
  case atStart => exact ⟨0, rfl, Nat.zero_le _, Mod.refl _ _⟩
  case round =>
    obtain ⟨i, rfl, hi, hm⟩ := hrel
    by_cases hlt : i < xs.length
    · have hlt' : (i : Int) < xs.length := by omega
      obtain ⟨x, hx⟩ : ∃ x, xs[i]? = some x := ⟨_, List.getElem?_eq_getElem hlt⟩
      obtain ⟨ba, oa, _, ea, ha⟩ := (HTA.out.kept hm).2 i x hx
      cases ea
      obtain ⟨bb, ob, _, eb, hb⟩ := (HTB.out.kept hm).2 i x hx
      cases eb
      have HMW := Lib.hid hm.drew
      clear hm hx hi
      go_wp2_with fail
      go_region
      all_goals (
        go_wp2_with fail
        go_roundw
        case rel => exact ⟨i + 1, by go_num, by omega, HMW.out⟩
        case measure => simp [intOf]; omega)
    · have hlt' : ¬ (i : Int) < xs.length := by omega
      go_wp2_with fail
      go_ret
      exact ⟨rfl, hm⟩

end Go.Proofs.YtmdeljacbekbpaaDoor

/- tenementlaw19.CoreTexts: every four bytes as a text, or refused. -/
import Derived.Test.YtapnodlmfapjlaaDoorRows
import Derived.Test.YtapnodlmfapjlaaDoorTextBoth
import Derived.Test.YtapnodlmfapjlaaDoorOpenBytS
import Derived.Lib.SmallJoins
import Derived.Lib.LaidTab
import Derived.Lib.LaidU8
import Derived.MakeChecks
import Derived.Lay
namespace Go.Proofs.YtapnodlmfapjlaaDoor
open Go.ChangeShapes Go.WideShapes Go.ChangeAt Go.RowKit Go.Shelf
set_option maxRecDepth 100000

theorem own_empty {w : World} {n₀ : Nat} {g : Nat} (h : w.heap[g]? = some (.cells #[] 5 (0, 0))) (hg : n₀ ≤ g) : w.ownsRow n₀ 5 1 (.slice (some ⟨g, 0, none⟩) 0 0) 0 [] :=
  ⟨rfl, .inr ⟨g, 0, #[], rfl, hg, h, Nat.le_refl _, Nat.zero_le _, rfl, rfl⟩⟩
theorem owns_slice {W : World} {b : Nat} {e : TypeId} {size : Nat} {v : Value} {k : Nat} {xs : List Value} (h : W.ownsRow b e size v k xs) : ∃ g cap, v = .slice g k cap := by
  rcases h.2 with ⟨rfl, h0⟩ | ⟨g, cap, _, rfl, _⟩
  · exact ⟨none, 0, by rw [h0]⟩
  · exact ⟨_, _, rfl⟩

theorem four_own {w : World} {base c : Nat} {q : Option Addr} {o x y z : Int} (h : w.ownsRow base 5 1 (.slice q 4 c) 4 ([o, x, y, z].map (Value.int .u8))) : ∃ bA, q = some ⟨bA, 0, none⟩ ∧ 4 ≤ c ∧ FourAt w bA 0 o x y z := by
  rcases h.2 with ⟨_, e⟩ | ⟨g, cap, cur, e, hb, hr, hc, r⟩
  · omega
  · cases e
    refine ⟨g, rfl, hc, fun w' hm => ?_⟩
    have h2 := own_kept h hm (fun _ _ q => q)
    have h3 := (own_at h2).2
    exact ⟨h3 0 _ rfl, h3 1 _ rfl, h3 2 _ rfl, h3 3 _ rfl⟩
theorem four_byt {w : World} {q : Option Addr} {cap : Nat} {o x y z : Int} (h : Byt w q [o, x, y, z] cap) : ∃ bA of, q = some ⟨bA, of, none⟩ ∧ 4 ≤ cap ∧ FourAt w bA of o x y z := by
  obtain ⟨b, off, e, hb, hc⟩ := h.at_ (by simp)
  refine ⟨b, off, e, h.fit, fun w' hm => ?_⟩
  obtain ⟨b', off', e', hb', hc'⟩ := (h.kept hm).at_ (by simp)
  rw [e] at e'
  cases e'
  exact ⟨hc' 0 _ rfl, hc' 1 _ rfl, hc' 2 _ rfl, hc' 3 _ rfl⟩

/-- Both Texts of the same bytes, one in a row of the call's own, one as it came in. -/
theorem texts_two (bs : List Int) (hr : ∀ x ∈ bs, 0 ≤ x ∧ x ≤ 255) : ∃ (T : ByteArray) (e : Int),
    (∀ (w : World) (base : Nat) (q : Option Addr) (c : Nat), w.ownsRow base 5 1 (.slice q bs.length c) bs.length (bs.map (Value.int .u8)) → (∀ w', Mod No w w' → Lib.TabIs Tryd.prog w' "internal/strconv.uint64pow10" .u64 Lib.pow10Tab) →
      Calls Tryd.prog 5 #[.slice q bs.length c] w fun r w' => r = .returned (.tuple #[.string T, .int .i64 e]) ∧ Mod No w w') ∧
    (∀ (w : World) (q : Option Addr) (cap : Nat), Byt w q bs cap → Calls Tryd.prog 6 #[.slice q bs.length cap] w fun r w' => r = .returned (.tuple #[.string T, .int .i64 e]) ∧ Mod No w w') := by
  by_cases hl : bs.length = 4
  · obtain ⟨o, x, y, z, rfl⟩ : ∃ o x y z, bs = [o, x, y, z] := by
      match bs, hl with
      | [o, x, y, z], _ => exact ⟨o, x, y, z, rfl⟩
    have h0 := hr o (by simp)
    have h1 := hr x (by simp)
    have h2 := hr y (by simp)
    have h3 := hr z (by simp)
    by_cases ho : 20 < o
    · refine ⟨⟨#[]⟩, 191, fun w base q c hown _ => ?_, fun w q cap hb => ?_⟩
      · obtain ⟨bA, rfl, hc, hf⟩ := four_own hown
        exact text_op o x y z ho bA c w hc hf
      · obtain ⟨bA, of, rfl, hc, hf⟩ := four_byt hb
        exact rtext_op o x y z ho bA of cap w hc hf
    · obtain ⟨T, g1, g2⟩ := text_same o x y z ⟨h0.1, by omega⟩ h1 h2 h3
      refine ⟨T, 0, fun w base q c hown ht => ?_, fun w q cap hb => ?_⟩
      · obtain ⟨bA, rfl, hc, hf⟩ := four_own hown
        exact g1 bA c w hc hf ht
      · obtain ⟨bA, of, rfl, hc, hf⟩ := four_byt hb
        exact g2 bA of cap w hc hf
  · exact ⟨⟨#[]⟩, 1, fun w _ q c _ _ => text_len q bs.length c hl w, fun w q cap _ => rtext_len q bs.length cap hl w⟩

set_option maxHeartbeats 4000000 in
theorem coretexts_any (q : Option Addr) (bs : List Int) (cap : Nat) (w : World) (hb : Byt w q bs cap) (ht : Lib.TabIs Tryd.prog w "internal/strconv.uint64pow10" .u64 Lib.pow10Tab) :
    Calls Tryd.prog 3 #[.slice q bs.length cap] w fun e w' => e = .returned (.bool true) ∧ Mod No w w' := by
  have hgl : ∃ g, Tryd.prog.globalNamed "internal/strconv.uint64pow10" = some g := Option.isSome_iff_exists.1 (by kernel_rfl)
  obtain ⟨g, hg⟩ := hgl
  have HT : Hid (∀ w', Mod No w w' → Lib.TabIs Tryd.prog w' "internal/strconv.uint64pow10" .u64 Lib.pow10Tab) := fun w' hm => Go.Joins.tab_stays hg ht hm.no_below (Nat.le_refl _)
  obtain ⟨T, er, HC, HR⟩ := texts_two bs hb.range
  have HC := Lib.hid HC
  have HR := Lib.hid HR
  have HBY := Lib.hid hb
  have HBA : Hid (Byt (w.alloc (.cells #[] 5)) q bs cap) := hb.kept ((Mod.refl No w).alloc _)
  have hlen := hb.len
  clear hb ht hg
  go_enter Tryd.func3, Tryd.ntmps3
  go_wp2_with (at_builtin; refine wpList_append_byt rfl _ _ rfl w.heap.size _ [] rfl (own_empty (heap_alloc_new w (.cells #[] 5)) (Nat.le_refl _)) q bs cap rfl HBA.out (by simp; omega) (by simp) ?_; intro v' w5 hown5 hgr5; obtain ⟨q5, c5, rfl⟩ := owns_slice hown5; have HG5 := Lib.hid hgr5; have HO5 := Lib.hid hown5; clear hown5 hgr5)
  have ho5 : w5.ownsRow w.heap.size 5 1 (.slice q5 bs.length c5) bs.length (bs.map (Value.int .u8)) := HO5.out
  have hm5 : Mod No w w5 := ((Mod.refl No w).alloc _).grown HG5.out (fun j ej hj => by cases ej; exact absurd hj (Nat.lt_irrefl _))
  refine (HC.out w5 w.heap.size q5 c5 ho5 (fun w' hm => HT.out w' (hm5.trans hm))).mono ?_
  rintro e w6 ⟨rfl, h6⟩
  have hm6 : Mod No w w6 := hm5.trans h6
  have HR6 := Lib.hid (HR.out w6 q cap (HBY.out.kept hm6))
  have HM6 := Lib.hid hm6
  clear hm5 hm6 h6 ho5
  go_wp2_with (first
    | (go_at_call 6; refine HR6.out.mono ?_; rintro e w7 ⟨rfl, h7⟩; have HM7 := Lib.hid (HM6.out.trans h7); clear h7)
    | (go_at_call 7; refine (awake19_yes _).mono ?_; rintro e w8 ⟨rfl, h8⟩; have HM8 := Lib.hid (HM7.out.trans h8); clear h8))
  go_ret
  exact ⟨rfl, HM8.out⟩

theorem tabIs_of_reads {P : Program} {W : World} {name : String} {k : IntKind} {zs : List Int} {g : Nat} {t e : TypeId} {n : Nat}
    (hg : P.globalNamed name = some g) (hty : (P.globals[g]?).map (·.type) = some t) (ht : P.underlying t = some (.array n e)) (he : P.underlying e = some (.int k)) (hce : P.cellsOf e = 1) (hct : P.cellsOf t = n)
    (h : Lib.VarReads P W name (Lib.tabData k zs)) : Lib.TabIs P W name k zs := by
  obtain ⟨g', t', cs, fuel, p, hg', ht', hvar, hd⟩ := h
  obtain rfl := Option.some.inj (hg.symm.trans hg')
  obtain rfl := Option.some.inj (hty.symm.trans ht')
  unfold Lib.TabIs
  rw [hvar, ← Lib.cells_of_tab ht he hce hct hd]

set_option maxRecDepth 100000 in
theorem tabs19 {W : World} {L : List (String × DataW Unit)} (hL : laidMetH Tryd.prog L W) (e : L = Rows.coreTextsRow.laid) : Lib.TabIs Tryd.prog W "internal/strconv.uint64pow10" .u64 Lib.pow10Tab := by
  subst e
  rw [MakeChecks.laidMetH_plain _ _ _ (by kernel_rfl)] at hL
  have h1 : Lib.VarReads Tryd.prog W "internal/strconv.uint64pow10" (Lib.tabData .u64 Lib.pow10Tab) := Lib.laidMet.reads hL (.tail _ (.tail _ (.head _)))
  obtain ⟨g, hg⟩ : ∃ g, Tryd.prog.globalNamed "internal/strconv.uint64pow10" = some g := Option.isSome_iff_exists.1 (by kernel_rfl)
  have hty : ((Tryd.prog.globalNamed "internal/strconv.uint64pow10").bind fun g => (Tryd.prog.globals[g]?).map (·.type)) = some 73 := by kernel_rfl
  rw [hg] at hty
  exact tabIs_of_reads hg hty (n := 20) (e := 63) (by kernel_rfl) (by kernel_rfl) (by kernel_rfl) (by kernel_rfl) h1

end Go.Proofs.YtapnodlmfapjlaaDoor

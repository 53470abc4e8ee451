/- The code's machine, a view of it, a console with its lines: steps of all. -/
import Derived.Test.YtmdeljacbekbpaaDoorConsCome
import Derived.Test.YtmdeljacbekbpaaDoorConsFeed
namespace Go.Proofs.YtmdeljacbekbpaaDoor
open Go.RowKit
set_option maxRecDepth 100000

/-- The lines and the part behind all bytes. -/
def comesR (s : List (List Int) × List Int) (bs : List Int) : List (List Int) × List Int := bs.foldl comeR s
theorem comesR_snoc (s : List (List Int) × List Int) (bs : List Int) (x : Int) : comesR s (bs ++ [x]) = comeR (comesR s bs) x := by simp [comesR]
theorem comeR_part {s : List (List Int) × List Int} (x : Int) (h : s.2.length < 128) : (comeR s x).2.length < 128 := by
  unfold comeR
  split
  · simp
  · split
    · simp
    · rename_i h2
      rw [List.length_append, List.length_singleton] at h2 ⊢
      omega
theorem comeR_lines (s : List (List Int) × List Int) (x : Int) : (comeR s x).1.length ≤ s.1.length + 1 := by
  unfold comeR
  split
  · simp
  · split <;> simp
theorem comesR_part : ∀ (bs : List Int) (s : List (List Int) × List Int), s.2.length < 128 → (comesR s bs).2.length < 128
  | [], _, h => h
  | x :: bs, s, h => comesR_part bs (comeR s x) (comeR_part x h)
theorem comesR_lines : ∀ (bs : List Int) (s : List (List Int) × List Int), (comesR s bs).1.length ≤ s.1.length + bs.length
  | [], _ => Nat.le_refl _
  | x :: bs, s => by
    have h1 := comesR_lines bs (comeR s x)
    have h2 := comeR_lines s x
    simp only [List.length_cons]
    exact Nat.le_trans h1 (by omega)

structure DW (B F b base top : Nat) (vk : ViK) (N : Int) (l : List Pk) (S : List Fr) (c : Co) (lv pv : Value) (b0 : Nat) (s : List (List Int) × List Int) (w : World) : Prop where
  cw : CW B F b base top vk N l S c lv pv w
  lp : LP w b0 lv pv s.1 s.2
  hb : 1 < b ∧ b < b0
  sep : ∀ j, Own2 lv pv j → j ≠ F ∧ j ≠ B ∧ (j < base ∨ top ≤ j)
  top : top ≤ w.heap.size
  b0 : b0 ≤ w.heap.size
  tabs : Lib.Utf8Tabs 0 1 w
  lo : 1 < F ∧ 1 < base
  part : s.2.length < 128

/-- What may change in a call of a console. -/
def P4 (F : Nat) (vk : ViK) (b : Nat) (lv pv : Value) : Nat → Prop := fun i => P3 F vk b i ∨ Own2 lv pv i

theorem DW.neb {B F b base top : Nat} {vk : ViK} {N : Int} {l : List Pk} {S : List Fr} {c : Co} {lv pv : Value} {b0 : Nat} {s : List (List Int) × List Int} {w : World} (h : DW B F b base top vk N l S c lv pv b0 s w) {j : Nat} (hj : Own2 lv pv j) :
    j ≠ F ∧ j ≠ vk.V ∧ j ≠ b ∧ 1 < j ∧ j < w.heap.size := by
  have h1 := h.sep j hj
  have h2 := h.cw.v.d.rng
  have h3 := h.lp.low hj
  have h4 := h.hb
  exact ⟨h1.1, by omega, by omega, by omega, h3.2⟩
theorem DW.p3 {B F b base top : Nat} {vk : ViK} {N : Int} {l : List Pk} {S : List Fr} {c : Co} {lv pv : Value} {b0 : Nat} {s : List (List Int) × List Int} {w : World} (h : DW B F b base top vk N l S c lv pv b0 s w) : ¬ P3 F vk b 0 ∧ ¬ P3 F vk b 1 := by
  have h1 := h.lo
  have h2 := h.cw.v.d.rng
  have h3 := h.hb
  constructor <;> (rintro (q | q | q) <;> omega)
theorem DW.no {B F b base top : Nat} {vk : ViK} {N : Int} {l : List Pk} {S : List Fr} {c : Co} {lv pv : Value} {b0 : Nat} {s : List (List Int) × List Int} {w w' : World} (h : DW B F b base top vk N l S c lv pv b0 s w) (hm : Mod No w w') : DW B F b base top vk N l S c lv pv b0 s w' :=
  ⟨h.cw.no hm, h.lp.no hm, h.hb, h.sep, Nat.le_trans h.top hm.size, Nat.le_trans h.b0 hm.size, tabs_mod h.tabs hm (fun q => q) (fun q => q), h.lo, h.part⟩
/-- A step that changes the machine, the view, the console's own cells. -/
theorem DW.step {B F b base top : Nat} {vk : ViK} {N N' : Int} {l : List Pk} {S S' : List Fr} {c c' : Co} {lv pv : Value} {b0 : Nat} {s : List (List Int) × List Int} {w w' : World} (h : DW B F b base top vk N l S c lv pv b0 s w) (hc : CW B F b base top vk N' l S' c' lv pv w') (hm : Mod (P3 F vk b) w w') : DW B F b base top vk N' l S' c' lv pv b0 s w' :=
  ⟨hc, h.lp.kept hm (fun j hj q => by have := h.neb hj; rcases q with q | q | q <;> omega), h.hb, h.sep, Nat.le_trans h.top hm.size, Nat.le_trans h.b0 hm.size, tabs_mod h.tabs hm h.p3.1 h.p3.2, h.lo, h.part⟩
theorem DW.vout {B F b base top : Nat} {vk : ViK} {N N' : Int} {l : List Pk} {S S' : List Fr} {c : Co} {lv pv : Value} {b0 : Nat} {s : List (List Int) × List Int} {w w' : World} (h : DW B F b base top vk N l S c lv pv b0 s w) (o : VOut base top B F vk N' l S' w w') : DW B F b base top vk N' l S' c lv pv b0 s w' ∧ Mod (P3 F vk b) w w' :=
  ⟨h.step (h.cw.vout o).1 (h.cw.vout o).2, (h.cw.vout o).2⟩
/-- A byte comes. -/
theorem DW.come {B F b base top : Nat} {vk : ViK} {N : Int} {l : List Pk} {S : List Fr} {c : Co} {lv pv : Value} {b0 : Nat} {s : List (List Int) × List Int} {w : World} (h : DW B F b base top vk N l S c lv pv b0 s w) (x : Int) (hx : 0 ≤ x ∧ x ≤ 255) (hn : (s.1.length + 1) * 16 ≤ 140737488355328) :
    Calls Tryd.prog 46 #[.pointer (some ⟨b, 0, none⟩), .int .u8 x] w fun e w' => ∃ lv' pv', e = .returned (.tuple #[]) ∧ DW B F b base top vk N l S c lv' pv' b0 (comeR s x) w' ∧ Mod (fun i => i = b ∨ Own2 lv pv i) w w' ∧ ∀ j, Own2 lv' pv' j → Own2 lv pv j ∨ w.heap.size ≤ j := by
  obtain ⟨n1, n2, n3, n4, n5⟩ := h.cw.neb
  refine (come_any x w h.cw.co h.lp h.hb h.b0 h.tabs hx h.part hn).mono ?_
  rintro e w' ⟨lv', pv', rfl, hco, hlp, hm, hnew⟩
  have htop := h.top
  have hF := h.cw.p.ltF
  have hB : B < w.heap.size := by
    obtain ⟨d, _, hc⟩ := h.cw.p.head
    exact lt_of_blk hc
  refine ⟨lv', pv', rfl, ⟨⟨h.cw.p.kept hm ?_ ?_, h.cw.v.kept hm ?_, hco, h.cw.ok, h.cw.sep⟩, hlp, h.hb, ?_, Nat.le_trans h.top hm.size, Nat.le_trans h.b0 hm.size, tabs_mod h.tabs hm ?_ ?_, h.lo, comeR_part x h.part⟩, hm, hnew⟩
  · rintro (q | q)
    · exact n2 q.symm
    · exact (h.sep _ q).2.1 rfl
  · rintro (q | q)
    · exact n1 q.symm
    · exact (h.sep _ q).1 rfl
  · rintro i hi ht (q | q)
    · have := h.cw.sep; omega
    · have := h.sep _ q; omega
  · intro j hj
    rcases hnew j hj with q | q
    · exact h.sep j q
    · have := h.cw.sep
      exact ⟨by omega, by omega, .inr (by omega)⟩
  · rintro (q | q)
    · have := h.hb; omega
    · have := h.neb q; omega
  · rintro (q | q)
    · have := h.hb; omega
    · have := h.neb q; omega

/-- What stands at a place of the page. -/
def bytesAt (S : List Fr) (mfn off : Int) (n : Nat) : List Int := match S[mfn.toNat]? with | some f => (f.bytes.drop off.toNat).take n | none => []
/-- What a reader takes out of the ring: the frames behind its reads, the next read's number, the bytes. -/
def outR (l : List Pk) (N : Int) (S : List Fr) (mfn om : Int) (n : Nat) : List Fr × Int × List Int :=
  if n ≤ 128 - (om % 128).toNat then (pokes (dueAt l (N + 1)) S, N + 2, bytesAt (pokes (dueAt l (N + 1)) S) mfn (16 + om % 128) n)
  else (pokes (dueAt l (N + 2)) (pokes (dueAt l (N + 1)) S), N + 3, bytesAt (pokes (dueAt l (N + 1)) S) mfn (16 + om % 128) (128 - (om % 128).toNat) ++ bytesAt (pokes (dueAt l (N + 2)) (pokes (dueAt l (N + 1)) S)) mfn 16 (n - (128 - (om % 128).toNat)))

end Go.Proofs.YtmdeljacbekbpaaDoor

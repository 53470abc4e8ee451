/- The code's machine, view and console behind begin, and the law's own lines. -/
import Derived.Test.YtmdeljacbekbpaaDoorBytesPure
import Derived.Test.YtmdeljacbekbpaaDoorConsDrain
import Derived.Test.YtmdeljacbekbpaaDoorConsLines
import Derived.Test.YtmdeljacbekbpaaDoorLaw16Feeds
namespace Go.Proofs.YtmdeljacbekbpaaDoor
open Go.RowKit
set_option maxRecDepth 100000

/-- What nothing of a console is among. -/
theorem DW.other {Q : Nat → Prop} {B F b base top : Nat} {vk : ViK} {N : Int} {l : List Pk} {S : List Fr} {c : Co} {lv pv : Value} {b0 : Nat} {s : List (List Int) × List Int} {w w' : World} (h : DW B F b base top vk N l S c lv pv b0 s w) (hm : Mod Q w w')
    (hq : ∀ i, Q i → i ≠ F ∧ i ≠ B ∧ i ≠ b ∧ (i < base ∨ top ≤ i) ∧ 1 < i ∧ ¬ Own2 lv pv i) : DW B F b base top vk N l S c lv pv b0 s w' :=
  ⟨⟨h.cw.p.kept hm (fun q => (hq _ q).2.1 rfl) (fun q => (hq _ q).1 rfl), h.cw.v.kept hm (fun i hi ht q => by have := (hq i q).2.2.2.1; omega), h.cw.co.kept hm (fun q => (hq _ q).2.2.1 rfl), h.cw.ok, h.cw.sep⟩, h.lp.kept hm (fun j hj q => (hq j q).2.2.2.2.2 hj), h.hb, h.sep, Nat.le_trans h.top hm.size, Nat.le_trans h.b0 hm.size,
    tabs_mod h.tabs hm (fun q => by have := (hq 0 q).2.2.2.2.1; omega) (fun q => by have := (hq 1 q).2.2.2.2.1; omega), h.lo, h.part⟩

structure UB (w0 : World) (B F b base top : Nat) (vk : ViK) (N : Int) (g : List Int) (c : Co) (lv pv wv qv : Value) (s s2 : List (List Int) × List Int) (w : World) : Prop where
  dw : DW B F b base top vk N [] (pg1 g) c lv pv top s w
  lw : LP w top wv qv s2.1 s2.2
  ap : ∀ j, Own2 wv qv j → ¬ Own2 lv pv j
  bt : b < base ∧ B < top
  mod : Mod No w0 w
  new : w0.heap.size ≤ F ∧ w0.heap.size ≤ b ∧ w0.heap.size ≤ vk.V ∧ w0.heap.size ≤ top

theorem UB.far {w0 : World} {B F b base top : Nat} {vk : ViK} {N : Int} {g : List Int} {c : Co} {lv pv wv qv : Value} {s s2 : List (List Int) × List Int} {w : World} (h : UB w0 B F b base top vk N g c lv pv wv qv s s2 w) : F < top ∧ b < top ∧ vk.V < top ∧ B < top ∧ base ≤ top ∧ 1 < top := by
  have h1 := h.dw.cw.sep
  have h2 := h.dw.cw.v.d.rng
  have h3 := h.bt
  have h4 := h.dw.hb
  omega
theorem UB.no {w0 : World} {B F b base top : Nat} {vk : ViK} {N : Int} {g : List Int} {c : Co} {lv pv wv qv : Value} {s s2 : List (List Int) × List Int} {w w' : World} (h : UB w0 B F b base top vk N g c lv pv wv qv s s2 w) (hm : Mod No w w') : UB w0 B F b base top vk N g c lv pv wv qv s s2 w' :=
  ⟨h.dw.no hm, h.lw.no hm, h.ap, h.bt, h.mod.trans hm, h.new⟩

/-- A write into the first page. -/
theorem ub_write {w0 : World} {B F b base top : Nat} {vk : ViK} {N : Int} {g : List Int} {c : Co} {lv pv wv qv : Value} {s s2 : List (List Int) × List Int} {w : World} (h : UB w0 B F b base top vk N g c lv pv wv qv s s2 w) (off : Int) (p : Option Addr) (cap : Nat) (bs : List Int) (h0 : 0 ≤ off) (h1 : off + bs.length ≤ 256) (hs : Src w p bs) :
    Calls Tryd.prog 17 #[.pointer (some ⟨B, 0, none⟩), .int .i64 0, .int .i64 off, .slice p bs.length cap] w fun e w' => e = .returned (.int .i64 0) ∧ UB w0 B F b base top vk N (splice g off.toNat bs) c lv pv wv qv s s2 w' := by
  obtain ⟨e1, e2⟩ := wr_pg1 (g := g) h0 h1
  have hf := h.far
  refine (pwrite_any 0 off p cap bs w h.dw.cw.p hs).mono ?_
  rintro e w' ⟨rfl, hm, hp⟩
  rw [e1] at hp
  refine ⟨by rw [e2], h.dw.step (h.dw.cw.wrote hm hp).1 (p3_one hm), h.lw.kept hm (fun j hj (q : j = F) => by have := (h.lw.low hj).1; omega), h.ap, h.bt, h.mod.step hm (fun i hi (q : i = F) => by have := h.new.1; omega), h.new⟩

/-- The law's own lines change. -/
theorem UB.law {w0 : World} {B F b base top : Nat} {vk : ViK} {N : Int} {g : List Int} {c : Co} {lv pv wv qv wv' qv' : Value} {s s2 s3 : List (List Int) × List Int} {w w' : World} (h : UB w0 B F b base top vk N g c lv pv wv qv s s2 w) (hl : LP w' top wv' qv' s3.1 s3.2) (hm : Mod (Own2 wv qv) w w') (hn : ∀ j, Own2 wv' qv' j → Own2 wv qv j ∨ w.heap.size ≤ j) :
    UB w0 B F b base top vk N g c lv pv wv' qv' s s3 w' := by
  have hf := h.far
  refine ⟨h.dw.other hm (fun i hi => ?_), hl, fun j hj hj2 => ?_, h.bt, h.mod.step hm (fun i hi q => ?_), h.new⟩
  · have h1 := (h.lw.low hi).1
    exact ⟨by omega, by omega, by omega, .inr h1, by omega, h.ap i hi⟩
  · rcases hn j hj with q | q
    · exact h.ap j q hj2
    · have := (h.dw.lp.low hj2).2; omega
  · have h1 := (h.lw.low q).1
    have h2 := h.new
    omega

/-- A drain. -/
theorem ub_drain {w0 : World} {B F b base top : Nat} {vk : ViK} {N : Int} {g bs : List Int} {put : Nat} {lv pv wv qv : Value} {s s2 : List (List Int) × List Int} {w : World} (h : UB w0 B F b base top vk N (outB g put bs) ⟨0, ((put % 65536 : Nat) : Int), 0⟩ lv pv wv qv s s2 w) (hg : g.length = 256) (hl : bs.length ≤ 128) (hN : 0 ≤ N ∧ N < 4611686018427387900) (hls : (s.1.length + 129) * 16 ≤ 140737488355328) :
    Calls Tryd.prog 18 #[.pointer (some ⟨b, 0, none⟩), .pointer (some ⟨vk.V, 0, none⟩)] w fun e w' => ∃ lv' pv' N' g', e = .returned (.tuple #[.int .i64 bs.length, .bool false, .int .i64 0]) ∧ (N ≤ N' ∧ N' ≤ N + 3) ∧ g'.length = 256 ∧
      UB w0 B F b base top vk N' g' ⟨0, (((put + bs.length) % 65536 : Nat) : Int), 0⟩ lv' pv' wv qv (comesR s bs) s2 w' := by
  have hf := h.far
  have hw := outB_word (put := put) (bs := bs) hg
  have e0 : pokes (dueAt ([] : List Pk) N) (pg1 (outB g put bs)) = pg1 (outB g put bs) := rfl
  have hd := drain_ok { own1Fr with bytes := outB g put bs } w h.dw hN (by simp) ⟨⟨by simp only; omega, by simp [pg1]⟩, by omega, by omega, by omega⟩ (by rw [e0]; rfl) (bs.length : Int) (by
    show _ = (word2 (((outB g put bs).drop 0).take 2) - ((put % 65536 : Nat) : Int)) % 65536
    rw [hw]; omega) bs.length (by omega) hls _ rfl
  have hR := outR_pg (put := put) hg hl N
  rw [e0] at hd
  simp only at hd
  rw [hR] at hd
  have e3 : (((put % 65536 : Nat) : Int) + (bs.length : Int)) % 65536 = (((put + bs.length) % 65536 : Nat) : Int) := by omega
  simp only at hd
  rw [e3, (wr_pg1 (by omega) (by simp [twoB])).1] at hd
  refine hd.mono ?_
  rintro e w' ⟨lv', pv', rfl, hdw, hm, hn⟩
  refine ⟨lv', pv', _, _, by rw [decide_eq_false (Int.lt_irrefl _)], ?_, splice_size (outB_size hg) (by simp [twoB]), hdw, h.lw.kept hm (fun j hj q => ?_), fun j hj hj2 => ?_, h.bt, h.mod.step hm (fun i hi q => ?_), h.new⟩
  · split <;> omega
  · have h1 := (h.lw.low hj).1
    rcases q with (q | q | q) | q
    · omega
    · omega
    · omega
    · exact h.ap j hj q
  · rcases hn j hj2 with q | q
    · exact h.ap j hj q
    · have := (h.lw.low hj).2; omega
  · have h2 := h.new
    rcases q with (q | q | q) | q
    · omega
    · omega
    · omega
    · have := (h.dw.lp.low q).1; omega

end Go.Proofs.YtmdeljacbekbpaaDoor

/- Both machines, a view of each, a back end of each. -/
import Derived.Test.YtpfjpfepbhfmeaaLaw08Begin
import Derived.Test.YtpfjpfepbhfmeaaOpenROp
namespace Go.Proofs.Ytpfjpfepbhfmeaa
open Go.RowKit
set_option maxRecDepth 100000

theorem blk_neK {w : World} {b : Nat} {cs : Array Value} {t : TypeId} {K : RfK} {S : List Fr} (h : w.heap[b]? = some (.cells cs t (0, 0))) (hR : RfM w K S) (h1 : t ≠ 84) (h2 : t ≠ 133) (h3 : t ≠ 31) (h4 : t ≠ 5) : ¬ K.has b := by
  obtain ⟨c0, d0, _, _, hh⟩ := hR.head
  obtain ⟨rg, hg⟩ := hR.frow
  obtain ⟨rh, hr⟩ := hR.brow
  rintro (e | e | e | e)
  · rw [← e, h] at hh; simp at hh; exact h1 hh.2
  · rw [← e, h] at hg; simp at hg; exact h2 hg.2
  · rw [← e, h] at hr; simp at hr; exact h3 hr.2
  · obtain ⟨p, hp, rfl⟩ := List.mem_map.1 e
    obtain ⟨i, hi⟩ := List.getElem?_of_mem hp
    have hil := (List.getElem?_eq_some_iff.1 hi).1
    have hb := hR.bll
    obtain ⟨_, r, h5⟩ := hR.rows i _ p (List.getElem?_eq_getElem (by omega)) hi
    rw [h5] at h; simp at h; exact h4 h.2.symm

structure Duo (w0 : World) (B F b base top : Nat) (vk : ViK) (X : Nat) (K : RfK) (q : Option Addr) (cap : Nat) (l : List Pk) (N : Int) (S : List Fr) (c : Nat) (k : Bk) (w : World) : Prop where
  cc : CV B F b base top vk N l S k w
  rr : RV w0 X K q cap l N S c k w
  Kb : ∀ j, K.has j → j < base
  cb : c < base
  Xt : top ≤ X
  F0 : w0.heap.size ≤ F ∧ w0.heap.size ≤ b

theorem Duo.no {w0 : World} {B F b base top : Nat} {vk : ViK} {X : Nat} {K : RfK} {q : Option Addr} {cap : Nat} {l : List Pk} {N : Int} {S : List Fr} {c : Nat} {k : Bk} {w w' : World} (h : Duo w0 B F b base top vk X K q cap l N S c k w) (hm : Mod No w w') : Duo w0 B F b base top vk X K q cap l N S c k w' :=
  ⟨h.cc.no hm, h.rr.no hm, h.Kb, h.cb, h.Xt, h.F0⟩

/-- The document's side behind a call of the code's. -/
theorem Duo.mid {w0 : World} {B F b base top : Nat} {vk : ViK} {X : Nat} {K : RfK} {q : Option Addr} {cap : Nat} {l : List Pk} {N : Int} {S : List Fr} {c : Nat} {k : Bk} {w w1 : World} (h : Duo w0 B F b base top vk X K q cap l N S c k w) (hm : Mod (P3 F vk b) w w1) : RV w0 X K q cap l N S c k w1 := by
  have hr := h.cc.v.d.rng
  have hs := h.cc.sep
  have hF := (h.rr.r.ne_phys h.cc.p).2
  have hb : ¬ K.has b := blk_neK h.cc.bk h.rr.r (by decide) (by decide) (by decide) (by decide)
  have hcF : c ≠ F ∧ c ≠ b := by
    have h1 := h.rr.bk
    obtain ⟨r, hrow⟩ := h.cc.p.row
    have h2 := h.cc.bk
    unfold RBkM at h1
    unfold BkM at h2
    exact ⟨fun e => by rw [e, hrow] at h1; simp at h1, fun e => by rw [e, h2] at h1; simp at h1⟩
  have hX := h.Xt
  have hcb := h.cb
  have h0 := h.F0
  have hn : ∀ i, P3 F vk b i → ¬ K.has i := by
    rintro i (rfl | rfl | rfl)
    · exact hF
    · intro q; have := h.Kb _ q; omega
    · exact hb
  refine ⟨h.rr.r.kept hm (fun i hi q => hn i q hi), h.rr.x.kept hm ?_, h.rr.bk.kept hm ?_, h.rr.ok, h.rr.mod.step hm ?_, h.rr.K, h.rr.X⟩
  · rintro (q | q | q) <;> omega
  · rintro (q | q | q)
    · exact hcF.1 q
    · omega
    · exact hcF.2 q
  · rintro i hi (rfl | rfl | rfl) <;> omega

theorem Duo.pair {w0 : World} {B F b base top : Nat} {vk : ViK} {X : Nat} {K : RfK} {q : Option Addr} {cap : Nat} {l : List Pk} {N N' : Int} {S S' : List Fr} {c : Nat} {k k' : Bk} {w w1 wb w2 : World} (h : Duo w0 B F b base top vk X K q cap l N S c k w)
    (h1 : CV B F b base top vk N' l S' k' w1) (hm1 : Mod (P3 F vk b) w w1) (hb : Mod No w1 wb) (h2 : RV w0 X K q cap l N' S' c k' w2) (hm2 : Mod (Q3 K X c) wb w2) : Duo w0 B F b base top vk X K q cap l N' S' c k' w2 := by
  have hmid := h.mid hm1
  have h1b := h1.no hb
  have hmb := hmid.no hb
  have hr := h1.v.d.rng
  have hs := h1.sep
  have hF := hmb.r.ne_phys h1b.p
  have hbK : ¬ K.has b := blk_neK h1b.bk hmb.r (by decide) (by decide) (by decide) (by decide)
  have hne : c ≠ F ∧ c ≠ b ∧ c ≠ B := by
    have h1 := hmb.bk
    obtain ⟨r, hrow⟩ := h1b.p.row
    obtain ⟨_, _, hhd⟩ := h1b.p.head
    have h2 := h1b.bk
    unfold RBkM at h1
    unfold BkM at h2
    exact ⟨fun e => by rw [e, hrow] at h1; simp at h1, fun e => by rw [e, h2] at h1; simp at h1, fun e => by rw [e, hhd] at h1; simp at h1⟩
  have hXB : X ≠ B := by
    have h1 := hmb.x.head
    obtain ⟨_, _, hhd⟩ := h1b.p.head
    intro e; rw [e, hhd] at h1; simp at h1
  have hX := h.Xt
  have hcb := h.cb
  refine ⟨⟨h1b.p.kept hm2 ?_ ?_, h1b.v.kept hm2 ?_, h1b.bk.kept hm2 ?_, h1.ok, h1.sep⟩, h2, h.Kb, h.cb, h.Xt, h.F0⟩
  · rintro (q | q | q)
    · exact hF.1 (RfK.inn_has q)
    · exact hXB q.symm
    · exact hne.2.2 q.symm
  · rintro (q | q | q)
    · exact hF.2 (RfK.inn_has q)
    · omega
    · exact hne.1 q.symm
  · rintro i hi hit (q | q | q)
    · have := h.Kb i (RfK.inn_has q); omega
    · omega
    · omega
  · rintro (q | q | q)
    · exact hbK (RfK.inn_has q)
    · omega
    · exact hne.2.1 q.symm

/-- Both machines and both back ends, no view. -/
structure Eight (w0 : World) (B F : Nat) (K : RfK) (b c : Nat) (S : List Fr) (k : Bk) (w : World) : Prop where
  rd : RoundS w0 B F 2 0 K S w
  eb : BkM w b k
  ec : RBkM w c k
  ok : k.ok
  lo : w0.heap.size ≤ b ∧ w0.heap.size ≤ c

theorem Eight.no {w0 : World} {B F : Nat} {K : RfK} {b c : Nat} {S : List Fr} {k : Bk} {w w' : World} (h : Eight w0 B F K b c S k w) (hm : Mod No w w') : Eight w0 B F K b c S k w' := ⟨h.rd.no hm, h.eb.no hm, h.ec.no hm, h.ok, h.lo⟩

theorem Duo.back {w0 : World} {B F b base top : Nat} {vk : ViK} {X : Nat} {K : RfK} {q : Option Addr} {cap : Nat} {l : List Pk} {N : Int} {S : List Fr} {c : Nat} {k : Bk} {w : World} (h : Duo w0 B F b base top vk X K q cap l N S c k w) (hS : S.length = 2) (hI : invS 0 S) : Eight w0 B F K b c S k w :=
  ⟨⟨⟨h.cc.p, h.rr.r, hI⟩, hS, h.rr.mod, h.F0.1, h.rr.K⟩, h.cc.bk, h.rr.bk, h.cc.ok, h.F0.2, h.rr.X.2⟩

/-- Two views are made. -/
theorem Eight.views {w0 : World} {B F : Nat} {K : RfK} {b c : Nat} {S : List Fr} {k : Bk} {w w1 w2 : World} {vk : ViK} {X : Nat} {q : Option Addr} {cap : Nat} {l : List Pk} (h : Eight w0 B F K b c S k w) (hm1 : Mod No w w1) (hv : ViM w1 w.heap.size w1.heap.size vk B 0 l) (hX : w1.heap.size ≤ X) (hm2 : Mod No w1 w2) (hx : RvM w2 X K q cap l 0) :
    Duo w0 B F b w.heap.size w1.heap.size vk X K q cap l 0 S c k w2 := by
  have h2 := (h.no hm1).no hm2
  have hs := hm1.size
  exact ⟨⟨h2.rd.two.p, hv.no hm2, h2.eb, h.ok, h.rd.two.p.ltF, h.eb.lt⟩, ⟨h2.rd.two.r, hx, h2.ec, h.ok, h2.rd.mod, h.rd.K, by have := h.rd.mod.size; omega, h.lo.2⟩, fun j hj => h.rd.two.r.lt j hj, h.ec.lt, hX, h.rd.F, h.lo.1⟩

/-- What a call may do to a back end. -/
inductive Bk.Step (k : Bk) : Bk → Prop
  | stay : k.Step k
  | look (n : Int) (h : 0 ≤ n ∧ n ≤ 8) : k.Step { k with seen := (k.inn + n) % 65536 }
  | took (h : ¬ k.busy) : k.Step k.took
  | laid (h : k.btw ≠ 0) : k.Step k.laid
theorem look_step (k : Bk) (S : List Fr) : k.Step (k.look S).2 := by
  unfold Bk.look
  split
  · exact .look _ (aheadR_range _ _)
  · exact .stay

end Go.Proofs.Ytpfjpfepbhfmeaa

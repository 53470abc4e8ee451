/- A view of the code's and one of the document's, side by side. -/
import Derived.Test.YthfkpbfapkpnfabViewTwo
import Derived.Test.YthfkpbfapkpnfabViewRest
namespace Go.Proofs.Ythfkpbfapkpnfab
open Go.RowKit
set_option maxRecDepth 100000

theorem both_write2 (m : Nat) (S : List Fr) (i off : Int) (bs : List Int) (hr : ∀ x ∈ bs, 0 ≤ x ∧ x ≤ 255) (hI : invS m S) : ∃ (r : Int) (S' : List Fr), S'.length = S.length ∧ invS m S' ∧
    (∀ w B F p c, PhM w B F S → Src w p bs → Calls Try.prog 22 #[.pointer (some ⟨B, 0, none⟩), .int .i64 i, .int .i64 off, .slice p bs.length c] w (POut B F (.int .i64 r) S' w)) ∧
    (∀ w K p c, RfM w K S → (0 < bs.length → ∃ b o, p = some ⟨b, o, none⟩ ∧ ¬ K.inn b ∧ bs.length ≤ c ∧ ∀ j x, bs[j]? = some x → w.cell? ⟨b, o + j, none⟩ = some (.int .u8 x)) →
      Calls Try.prog 75 #[.pointer (some ⟨K.R, 0, none⟩), .int .i64 i, .int .i64 off, .slice p bs.length c] w fun e w' => e = .returned (.int .i64 r) ∧ Mod K.inn w w' ∧ RfM w' K S') := by
  by_cases hp : InP S i off bs.length
  · have hil : i.toNat < S.length := by have := hp.1; omega
    have hf : S[i.toNat]? = some S[i.toNat] := List.getElem?_eq_getElem hil
    have hv := hI S[i.toNat] (List.getElem_mem hil)
    generalize S[i.toNat] = f at hf hv
    by_cases ho : f.owner = -1
    · exact ⟨11, S, rfl, hI, fun w B F p c h _ => (write_free i off p _ c f w h hp hf ho).mono fun e w' q => POut.same h q, fun w K p c h _ => (rwrite_free i off p _ c f w h hp hf ho).mono fun e w' q => by obtain ⟨rfl, rfl⟩ := q; exact ⟨rfl, Mod.refl _ _, h⟩⟩
    · refine ⟨0, S.set i.toNat { f with bytes := splice f.bytes off.toNat bs }, by simp, hI.set _ ⟨fun q => absurd q ho, hv.own, hv.type, hv.count, hv.zero⟩,
        fun w B F p c h hs => write_in i off p _ c bs f w h rfl hp hf ho hs, fun w K p c h hs => rwrite_in i off p _ c bs f w h rfl hp hf ho hr hs⟩
  · exact ⟨1, S, rfl, hI, fun w B F p c h _ => (write_out i off p _ c w h hp).mono fun e w' q => POut.same h q, fun w K p c h _ => (rwrite_out i off p _ c w h hp).mono fun e w' q => by obtain ⟨rfl, rfl⟩ := q; exact ⟨rfl, Mod.refl _ _, h⟩⟩

theorem invS_poke {m : Nat} {S : List Fr} (h : invS m S) (mfn off : Int) (bs : List Int) : invS m (pokeS S mfn off bs) := by
  unfold pokeS
  split
  · split
    · rename_i f hf
      split
      · rename_i hc
        have hv := h f (List.mem_of_getElem? hf)
        exact invS.set h _ ⟨fun q => by have := hc.1.1; simp only at q; omega, hv.own, hv.type, hv.count, hv.zero⟩
      · exact h
    · exact h
  · exact h
theorem invS_pokes {m : Nat} : ∀ (l : List Pk) {S : List Fr}, invS m S → invS m (pokes l S)
  | [], _, h => h
  | p :: l, _, h => invS_pokes l (invS_poke h p.mfn p.off p.bs)

structure BothV (w0 : World) (B F base top : Nat) (k : ViK) (X : Nat) (K : RfK) (q : Option Addr) (cap : Nat) (l : List Pk) (N : Int) (S : List Fr) (w : World) : Prop where
  c : VwS w0 B F base top k N l S w
  r : RfM w K S
  x : RvM w X K q cap l N
  K : ∀ j, K.has j → w0.heap.size ≤ j ∧ j < base
  X : top ≤ X
  inv : invS 8 S

theorem BothV.no {w0 w w' : World} {B F base top X : Nat} {k : ViK} {K : RfK} {q : Option Addr} {cap : Nat} {l : List Pk} {N : Int} {S : List Fr} (h : BothV w0 B F base top k X K q cap l N S w) (hm : Mod No w w') : BothV w0 B F base top k X K q cap l N S w' :=
  ⟨h.c.no hm, h.r.keptNo hm, h.x.kept hm (fun q => q), h.K, h.X, h.inv⟩

theorem BothV.mid {w0 w w1 : World} {B F base top X : Nat} {k : ViK} {K : RfK} {q : Option Addr} {cap : Nat} {l : List Pk} {N N' : Int} {S S' : List Fr} (h : BothV w0 B F base top k X K q cap l N S w) (o : VOut base top B F k N' l S' w w1) :
    RfM w1 K S ∧ RvM w1 X K q cap l N ∧ Mod No w0 w1 := by
  have hne := (h.r.ne_phys h.c.p).2
  have rg := h.c.v.d.rng
  have hF := h.c.F
  have hX := h.X
  refine ⟨h.r.kept o.mod ?_, h.x.kept o.mod ?_, (h.c.step o).mod⟩
  · rintro j hj (rfl | rfl)
    · exact hne hj
    · have := h.K _ hj; omega
  · rintro (e | e) <;> omega

theorem BothV.pair {w0 w w1 wb w2 : World} {B F base top X : Nat} {k : ViK} {K : RfK} {q : Option Addr} {cap : Nat} {l : List Pk} {N N' : Int} {S S' : List Fr} (h : BothV w0 B F base top k X K q cap l N S w) (o : VOut base top B F k N' l S' w w1)
    (hb : Mod No w1 wb) (o2 : RVOut X K q cap l N' S' wb w2) (hI : invS 8 S') : BothV w0 B F base top k X K q cap l N' S' w2 := by
  have hne := (h.r.ne_phys h.c.p)
  have hneB := (h.mid o).1
  have hc := (h.c.step o).no hb
  have rg := h.c.v.d.rng
  have hF := h.c.F
  have hX := h.X
  have hBX : B ≠ X := by
    intro e
    obtain ⟨c, _, h1⟩ := hc.p.head
    have h2 := o2.v.head
    have h3 := ((h.mid o).2.1.kept hb (fun q => q)).head
    rw [← e, h1] at h3
    simp at h3
  have hkB : ¬ K.inn B := fun q => hne.1 (RfK.inn_has q)
  refine ⟨⟨hc.p.kept o2.mod ?_ ?_, hc.v.kept o2.mod ?_, hc.mod.step o2.mod ?_, h.c.F⟩, o2.r, o2.v, h.K, h.X, hI⟩
  · rintro (e | e)
    · exact hkB e
    · exact hBX e
  · rintro (e | e)
    · exact hne.2 (RfK.inn_has e)
    · omega
  · rintro j hj1 hj2 (e | e)
    · have := h.K _ (RfK.inn_has e); omega
    · omega
  · rintro j hj (e | e)
    · have := h.K _ (RfK.inn_has e); omega
    · omega

/-- A write of the code's machine, as a step of the view. -/
theorem BothV.wcode {w0 w w1 : World} {B F base top X : Nat} {k : ViK} {K : RfK} {q : Option Addr} {cap : Nat} {l : List Pk} {N : Int} {S S' : List Fr} {v : Value} {e : Ending} (h : BothV w0 B F base top k X K q cap l N S w) (o : POut B F v S' w e w1) : VOut base top B F k N l S' w w1 := by
  have hF := h.c.F
  refine ⟨o.2.1.mono (fun _ _ q => .inl q), o.2.2, h.c.v.kept o.2.1 ?_⟩
  intro i hi1 _ (e : i = F)
  omega
theorem BothV.wref {w0 w w1 w2 : World} {B F base top X : Nat} {k : ViK} {K : RfK} {q : Option Addr} {cap : Nat} {l : List Pk} {N N' : Int} {S S' T : List Fr} (h : BothV w0 B F base top k X K q cap l N S w) (o : VOut base top B F k N' l T w w1) (hm : Mod K.inn w1 w2) (hr : RfM w2 K S') : RVOut X K q cap l N S' w1 w2 :=
  ⟨hm.mono (fun _ _ q => .inl q), hr, (h.mid o).2.1.kept hm ((h.mid o).2.1.ne (h.mid o).1)⟩

end Go.Proofs.Ythfkpbfapkpnfab

/- The code's machine, a view of it, a console: steps of all three; the console's number is told. -/
import Derived.Test.YtmdeljacbekbpaaDoorConsTell
namespace Go.Proofs.YtmdeljacbekbpaaDoor
open Go.RowKit
set_option maxRecDepth 100000

/-- A write, plainly: what stands behind it, its answer. -/
def wrIn (S : List Fr) (i off : Int) (n : Nat) : Prop := (0 ≤ i ∧ i < S.length) ∧ 0 ≤ off ∧ off + n ≤ 256
instance (S : List Fr) (i off : Int) (n : Nat) : Decidable (wrIn S i off n) := by unfold wrIn; infer_instance
def wrR (S : List Fr) (i off : Int) (bs : List Int) : List Fr := if wrIn S i off bs.length then (match S[i.toNat]? with | some f => if f.owner = -1 then S else S.set i.toNat { f with bytes := splice f.bytes off.toNat bs } | none => S) else S
def wrE (S : List Fr) (i off : Int) (n : Nat) : Int := if wrIn S i off n then (match S[i.toNat]? with | some f => if f.owner = -1 then 11 else 0 | none => 0) else 1
theorem wrIn_p {S : List Fr} {i off : Int} {n : Nat} : wrIn S i off n ↔ InP S i off n := ⟨fun h => ⟨h.1, h.2.1, by omega, h.2.2⟩, fun h => ⟨h.1, h.2.1, h.2.2.2⟩⟩
theorem wrR_len (S : List Fr) (i off : Int) (bs : List Int) : (wrR S i off bs).length = S.length := by
  unfold wrR; split
  · split
    · split <;> simp
    · rfl
  · rfl
theorem wrR_out {S : List Fr} {i off : Int} {bs : List Int} (h : ¬ InP S i off bs.length) : wrR S i off bs = S ∧ wrE S i off bs.length = 1 := by
  unfold wrR wrE
  rw [if_neg (fun q => h (wrIn_p.1 q)), if_neg (fun q => h (wrIn_p.1 q))]
  exact ⟨rfl, rfl⟩
theorem wrR_free {S : List Fr} {i off : Int} {bs : List Int} {f : Fr} (h : InP S i off bs.length) (hf : S[i.toNat]? = some f) (ho : f.owner = -1) : wrR S i off bs = S ∧ wrE S i off bs.length = 11 := by
  unfold wrR wrE
  rw [if_pos (wrIn_p.2 h), if_pos (wrIn_p.2 h), hf]
  exact ⟨if_pos ho, if_pos ho⟩
theorem wrR_in {S : List Fr} {i off : Int} {bs : List Int} {f : Fr} (h : InP S i off bs.length) (hf : S[i.toNat]? = some f) (ho : f.owner ≠ -1) : wrR S i off bs = S.set i.toNat { f with bytes := splice f.bytes off.toNat bs } ∧ wrE S i off bs.length = 0 := by
  unfold wrR wrE
  rw [if_pos (wrIn_p.2 h), if_pos (wrIn_p.2 h), hf]
  exact ⟨if_neg ho, if_neg ho⟩

theorem pwrite_any {B F : Nat} {S : List Fr} (i off : Int) (p : Option Addr) (c : Nat) (bs : List Int) (w : World) (h : PhM w B F S) (hs : Src w p bs) :
    Calls Tryd.prog 17 #[.pointer (some ⟨B, 0, none⟩), .int .i64 i, .int .i64 off, .slice p bs.length c] w fun e w' => e = .returned (.int .i64 (wrE S i off bs.length)) ∧ Mod (One F) w w' ∧ PhM w' B F (wrR S i off bs) := by
  by_cases hp : InP S i off bs.length
  · obtain ⟨f, hf⟩ : ∃ f, S[i.toNat]? = some f := ⟨_, List.getElem?_eq_getElem (by have := hp.1; omega)⟩
    by_cases ho : f.owner = -1
    · rw [(wrR_free hp hf ho).1, (wrR_free hp hf ho).2]
      refine (write_free i off p bs.length c f w h hp hf ho).mono ?_
      rintro e w' ⟨rfl, rfl⟩
      exact ⟨rfl, Mod.refl _ _, h⟩
    · rw [(wrR_in hp hf ho).1, (wrR_in hp hf ho).2]
      exact write_in i off p bs.length c bs f w h rfl hp hf ho hs
  · rw [(wrR_out hp).1, (wrR_out hp).2]
    refine (write_out i off p bs.length c w h hp).mono ?_
    rintro e w' ⟨rfl, rfl⟩
    exact ⟨rfl, Mod.refl _ _, h⟩

/-- The code's machine, a view of it, a console. -/
structure CW (B F b base top : Nat) (vk : ViK) (N : Int) (l : List Pk) (S : List Fr) (c : Co) (lv pv : Value) (w : World) : Prop where
  p : PhM w B F S
  v : ViM w base top vk B N l
  co : CoM w b c lv pv
  ok : c.ok
  sep : F < base ∧ (b < base ∨ top ≤ b)
def P3 (F : Nat) (vk : ViK) (b : Nat) : Nat → Prop := fun i => i = F ∨ i = vk.V ∨ i = b
theorem CoM.neF {w : World} {b B F : Nat} {c : Co} {lv pv : Value} {S : List Fr} (h : CoM w b c lv pv) (hp : PhM w B F S) : b ≠ F ∧ b ≠ B := by
  obtain ⟨r, hr⟩ := hp.row
  obtain ⟨d, _, hc⟩ := hp.head
  unfold CoM at h
  exact ⟨fun e => by rw [← e, h] at hr; simp at hr, fun e => by rw [← e, h] at hc; simp at hc⟩
theorem CW.neb {B F b base top : Nat} {vk : ViK} {N : Int} {l : List Pk} {S : List Fr} {c : Co} {lv pv : Value} {w : World} (h : CW B F b base top vk N l S c lv pv w) : b ≠ F ∧ b ≠ B ∧ b ≠ vk.V ∧ F ≠ vk.V ∧ B ≠ vk.V := by
  have h1 := h.v.d.rng
  have h2 := h.sep
  exact ⟨(h.co.neF h.p).1, (h.co.neF h.p).2, by omega, by omega, h.p.neV h.v.head⟩
theorem CW.no {B F b base top : Nat} {vk : ViK} {N : Int} {l : List Pk} {S : List Fr} {c : Co} {lv pv : Value} {w w' : World} (h : CW B F b base top vk N l S c lv pv w) (hm : Mod No w w') : CW B F b base top vk N l S c lv pv w' :=
  ⟨h.p.kept hm (fun q => q) (fun q => q), h.v.no hm, h.co.no hm, h.ok, h.sep⟩
theorem CW.vout {B F b base top : Nat} {vk : ViK} {N N' : Int} {l : List Pk} {S S' : List Fr} {c : Co} {lv pv : Value} {w w' : World} (h : CW B F b base top vk N l S c lv pv w) (o : VOut base top B F vk N' l S' w w') : CW B F b base top vk N' l S' c lv pv w' ∧ Mod (P3 F vk b) w w' := by
  obtain ⟨n1, n2, n3, n4, n5⟩ := h.neb
  exact ⟨⟨o.p, o.v, h.co.kept o.mod (fun q => q.elim n1 n3), h.ok, h.sep⟩, o.mod.mono (fun i _ q => q.elim .inl (fun q => .inr (.inl q)))⟩
theorem CW.set {B F b base top : Nat} {vk : ViK} {N : Int} {l : List Pk} {S : List Fr} {c c' : Co} {lv pv lv' pv' : Value} {w : World} (h : CW B F b base top vk N l S c lv pv w) (j : Nat) (v : Value) (hk : CoM (w.setCell ⟨b, j, none⟩ v) b c' lv' pv') (ok : c'.ok) :
    CW B F b base top vk N l S c' lv' pv' (w.setCell ⟨b, j, none⟩ v) ∧ Mod (P3 F vk b) w (w.setCell ⟨b, j, none⟩ v) := by
  obtain ⟨n1, n2, n3, n4, n5⟩ := h.neb
  have hm : Mod (One b) w (w.setCell ⟨b, j, none⟩ v) := (Mod.refl _ w).set1 j v
  exact ⟨⟨h.p.kept hm (fun q => n2 q.symm) (fun q => n1 q.symm), h.v.kept hm (fun i hi ht (q : i = b) => by have := h.sep; omega), hk, ok, h.sep⟩, hm.mono (fun i _ (q : i = b) => .inr (.inr q))⟩
theorem CW.wrote {B F b base top : Nat} {vk : ViK} {N : Int} {l : List Pk} {S S' : List Fr} {c : Co} {lv pv : Value} {w w' : World} (h : CW B F b base top vk N l S c lv pv w) (hm : Mod (One F) w w') (hp : PhM w' B F S') : CW B F b base top vk N l S' c lv pv w' ∧ Mod (P3 F vk b) w w' := by
  obtain ⟨n1, n2, n3, n4, n5⟩ := h.neb
  exact ⟨⟨hp, h.v.kept hm (fun i hi _ (q : i = F) => by have := h.sep; omega), h.co.kept hm n1, h.ok, h.sep⟩, hm.mono (fun i _ (q : i = F) => .inl q)⟩

/-- The view's own write. -/
theorem vwrite_cw {B F b base top : Nat} {vk : ViK} {N : Int} {l : List Pk} {S : List Fr} {c : Co} {lv pv : Value} (i off : Int) (p : Option Addr) (cap : Nat) (bs : List Int) (w : World) (h : CW B F b base top vk N l S c lv pv w) (hs : Src w p bs) :
    Calls Tryd.prog 41 #[.pointer (some ⟨vk.V, 0, none⟩), .int .i64 i, .int .i64 off, .slice p bs.length cap] w fun e w' => e = .returned (.int .i64 (wrE S i off bs.length)) ∧ CW B F b base top vk N l (wrR S i off bs) c lv pv w' ∧ Mod (One F) w w' :=
  vwrite_any (V := vk.V) (B := B) i off p bs.length cap w h.v.c0.1 ((pwrite_any i off p cap bs w h.p hs).mono fun _ _ q => ⟨q.1, (h.wrote q.2.1 q.2.2).1, q.2.1⟩)

end Go.Proofs.YtmdeljacbekbpaaDoor

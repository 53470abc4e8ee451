/- The document's machine, a view of it, a console with its lines. -/
import Derived.Test.YtmdeljacbekbpaaDoorRefCome
import Derived.Test.YtmdeljacbekbpaaDoorConsDW
import Derived.Test.YtmdeljacbekbpaaDoorRefVG
namespace Go.Proofs.YtmdeljacbekbpaaDoor
open Go.RowKit
set_option maxRecDepth 100000

theorem rwrite16 {K : RfK} {S : List Fr} (i off : Int) (p : Option Addr) (c : Nat) (bs : List Int) (w : World) (h : RfM w K S) (hr : ∀ x ∈ bs, 0 ≤ x ∧ x ≤ 255)
    (hs : 0 < bs.length → ∃ b o, p = some ⟨b, o, none⟩ ∧ ¬ K.inn b ∧ bs.length ≤ c ∧ ∀ j x, bs[j]? = some x → w.cell? ⟨b, o + j, none⟩ = some (.int .u8 x)) :
    Calls Tryd.prog 51 #[.pointer (some ⟨K.R, 0, none⟩), .int .i64 i, .int .i64 off, .slice p bs.length c] w fun e w' => e = .returned (.int .i64 (wrE S i off bs.length)) ∧ Mod K.inn w w' ∧ RfM w' K (wrR S i off bs) := by
  by_cases hp : InP S i off bs.length
  · obtain ⟨f, hf⟩ : ∃ f, S[i.toNat]? = some f := ⟨_, List.getElem?_eq_getElem (by have := hp.1; omega)⟩
    by_cases ho : f.owner = -1
    · rw [(wrR_free hp hf ho).1, (wrR_free hp hf ho).2]
      refine (rwrite_free i off p bs.length c f w h hp hf ho).mono ?_
      rintro e w' ⟨rfl, rfl⟩
      exact ⟨rfl, Mod.refl _ _, h⟩
    · rw [(wrR_in hp hf ho).1, (wrR_in hp hf ho).2]
      exact rwrite_in i off p bs.length c bs f w h rfl hp hf ho hr hs
  · rw [(wrR_out hp).1, (wrR_out hp).2]
    refine (rwrite_out i off p bs.length c w h hp).mono ?_
    rintro e w' ⟨rfl, rfl⟩
    exact ⟨rfl, Mod.refl _ _, h⟩

structure RCV (w0 : World) (X : Nat) (K : RfK) (q : Option Addr) (cap : Nat) (l : List Pk) (N : Int) (S : List Fr) (c : Nat) (o : Co) (lv pv : Value) (b0 : Nat) (s : List (List Int) × List Int) (w : World) : Prop where
  r : RfM w K S
  x : RvM w X K q cap l N
  rc : RCoM w c o lv pv
  lp : LP w b0 lv pv s.1 s.2
  ok : o.ok
  part : s.2.length < 128
  mod : Mod No w0 w
  hK : ∀ j, K.has j → w0.heap.size ≤ j
  hX : w0.heap.size ≤ X ∧ w0.heap.size ≤ c ∧ w0.heap.size ≤ b0
  far : ∀ j, Own2 lv pv j → ¬ K.has j ∧ j ≠ X
  hb : c < b0
  hb0 : b0 ≤ w.heap.size
  ne : ¬ K.has c ∧ c ≠ X ∧ ¬ K.has X
  top : X < w.heap.size ∧ ∀ j, K.has j → j < w.heap.size
def Q4 (K : RfK) (X c : Nat) (lv pv : Value) : Nat → Prop := fun i => K.inn i ∨ i = X ∨ i = c ∨ Own2 lv pv i

theorem RCV.no {w0 : World} {X : Nat} {K : RfK} {q : Option Addr} {cap : Nat} {l : List Pk} {N : Int} {S : List Fr} {c : Nat} {o : Co} {lv pv : Value} {b0 : Nat} {s : List (List Int) × List Int} {w w' : World} (h : RCV w0 X K q cap l N S c o lv pv b0 s w) (hm : Mod No w w') : RCV w0 X K q cap l N S c o lv pv b0 s w' :=
  ⟨h.r.keptNo hm, h.x.kept hm (fun q => q), h.rc.no hm, h.lp.no hm, h.ok, h.part, h.mod.trans hm, h.hK, h.hX, h.far, h.hb, Nat.le_trans h.hb0 hm.size, h.ne, Nat.lt_of_lt_of_le h.top.1 hm.size, fun j hj => Nat.lt_of_lt_of_le (h.top.2 j hj) hm.size⟩
theorem RCV.own {w0 : World} {X : Nat} {K : RfK} {q : Option Addr} {cap : Nat} {l : List Pk} {N : Int} {S : List Fr} {c : Nat} {o : Co} {lv pv : Value} {b0 : Nat} {s : List (List Int) × List Int} {w : World} (h : RCV w0 X K q cap l N S c o lv pv b0 s w) {j : Nat} (hj : Own2 lv pv j) : ¬ K.has j ∧ j ≠ X ∧ j ≠ c ∧ w0.heap.size ≤ j ∧ j < w.heap.size := by
  have h1 := h.lp.low hj
  have h2 := h.far j hj
  have h3 := h.hb
  have h4 := h.hX
  exact ⟨h2.1, h2.2, by omega, by omega, h1.2⟩
/-- A step that changes the machine's rows, the view, the console's own cells. -/
theorem RCV.step {w0 : World} {X : Nat} {K : RfK} {q : Option Addr} {cap : Nat} {l : List Pk} {N N' : Int} {S S' : List Fr} {c : Nat} {o o' : Co} {lv pv : Value} {b0 : Nat} {s : List (List Int) × List Int} {w w' : World} (h : RCV w0 X K q cap l N S c o lv pv b0 s w)
    (hm : Mod (fun i => K.inn i ∨ i = X ∨ i = c) w w') (hr : RfM w' K S') (hx : RvM w' X K q cap l N') (hc : RCoM w' c o' lv pv) (ho : o'.ok) : RCV w0 X K q cap l N' S' c o' lv pv b0 s w' := by
  refine ⟨hr, hx, hc, h.lp.kept hm (fun j hj q => ?_), ho, h.part, h.mod.step hm (fun i hi q => ?_), h.hK, h.hX, h.far, h.hb, Nat.le_trans h.hb0 hm.size, h.ne, Nat.lt_of_lt_of_le h.top.1 hm.size, fun j hj => Nat.lt_of_lt_of_le (h.top.2 j hj) hm.size⟩
  · have h1 := h.own hj
    rcases q with q | q | q
    · exact h1.1 (RfK.inn_has q)
    · exact h1.2.1 q
    · exact h1.2.2.1 q
  · have h1 := h.hX
    rcases q with q | q | q
    · have := h.hK i (RfK.inn_has q); omega
    · omega
    · omega
theorem RCV.rvout {w0 : World} {X : Nat} {K : RfK} {q : Option Addr} {cap : Nat} {l : List Pk} {N N' : Int} {S S' : List Fr} {c : Nat} {o : Co} {lv pv : Value} {b0 : Nat} {s : List (List Int) × List Int} {w w' : World} (h : RCV w0 X K q cap l N S c o lv pv b0 s w) (ov : RVOut X K q cap l N' S' w w') : RCV w0 X K q cap l N' S' c o lv pv b0 s w' ∧ Mod (Q4 K X c lv pv) w w' :=
  ⟨h.step (ov.mod.mono (fun _ _ q => q.elim .inl (fun q => .inr (.inl q)))) ov.r ov.v (h.rc.kept ov.mod (fun q => q.elim (fun q => h.ne.1 (RfK.inn_has q)) h.ne.2.1)) h.ok, ov.mod.mono (fun _ _ q => q.elim .inl (fun q => .inr (.inl q)))⟩
theorem RCV.set {w0 : World} {X : Nat} {K : RfK} {q : Option Addr} {cap : Nat} {l : List Pk} {N : Int} {S : List Fr} {c : Nat} {o o' : Co} {lv pv : Value} {b0 : Nat} {s : List (List Int) × List Int} {w : World} (h : RCV w0 X K q cap l N S c o lv pv b0 s w) (j : Nat) (v : Value) (hk : RCoM (w.setCell ⟨c, j, none⟩ v) c o' lv pv) (ho : o'.ok) :
    RCV w0 X K q cap l N S c o' lv pv b0 s (w.setCell ⟨c, j, none⟩ v) ∧ Mod (Q4 K X c lv pv) w (w.setCell ⟨c, j, none⟩ v) := by
  have hm : Mod (One c) w (w.setCell ⟨c, j, none⟩ v) := (Mod.refl _ w).set1 j v
  exact ⟨h.step (hm.mono (fun i _ (q : i = c) => .inr (.inr q))) (h.r.kept hm (fun i hi (q : i = c) => h.ne.1 (q ▸ hi))) (h.x.kept hm (fun (q : X = c) => h.ne.2.1 q.symm)) hk ho, hm.mono (fun i _ (q : i = c) => .inr (.inr (.inl q)))⟩
theorem RCV.wrote {w0 : World} {X : Nat} {K : RfK} {q : Option Addr} {cap : Nat} {l : List Pk} {N : Int} {S S' : List Fr} {c : Nat} {o : Co} {lv pv : Value} {b0 : Nat} {s : List (List Int) × List Int} {w w' : World} (h : RCV w0 X K q cap l N S c o lv pv b0 s w) (hm : Mod K.inn w w') (hr : RfM w' K S') :
    RCV w0 X K q cap l N S' c o lv pv b0 s w' ∧ Mod (Q4 K X c lv pv) w w' :=
  ⟨h.step (hm.mono (fun _ _ q => .inl q)) hr (h.x.kept hm (fun q => h.ne.2.2 (RfK.inn_has q))) (h.rc.kept hm (fun q => h.ne.1 (RfK.inn_has q))) h.ok, hm.mono (fun _ _ q => .inl q)⟩
/-- A byte comes. -/
theorem RCV.come {w0 : World} {X : Nat} {K : RfK} {q : Option Addr} {cap : Nat} {l : List Pk} {N : Int} {S : List Fr} {c : Nat} {o : Co} {lv pv : Value} {b0 : Nat} {s : List (List Int) × List Int} {w : World} (h : RCV w0 X K q cap l N S c o lv pv b0 s w) (x : Int) (hx : 0 ≤ x ∧ x ≤ 255) (hn : (s.1.length + 1) * 16 ≤ 140737488355328) :
    Calls Tryd.prog 64 #[.pointer (some ⟨c, 0, none⟩), .int .u8 x] w fun e w' => ∃ lv' pv', e = .returned (.tuple #[]) ∧ RCV w0 X K q cap l N S c o lv' pv' b0 (comeR s x) w' ∧ Mod (fun i => i = c ∨ Own2 lv pv i) w w' ∧ ∀ j, Own2 lv' pv' j → Own2 lv pv j ∨ w.heap.size ≤ j := by
  refine (rcome_any x w h.rc h.lp h.hb h.hb0 hx h.part hn).mono ?_
  rintro e w' ⟨lv', pv', rfl, hco, hlp, hm, hnew⟩
  refine ⟨lv', pv', rfl, ⟨h.r.kept hm (fun i hi q => ?_), h.x.kept hm (fun q => ?_), hco, hlp, h.ok, comeR_part x h.part, h.mod.step hm (fun i hi q => ?_), h.hK, h.hX, fun j hj => ?_, h.hb, Nat.le_trans h.hb0 hm.size, h.ne, Nat.lt_of_lt_of_le h.top.1 hm.size, fun j hj => Nat.lt_of_lt_of_le (h.top.2 j hj) hm.size⟩, hm, hnew⟩
  · rcases q with q | q
    · exact h.ne.1 (q ▸ hi)
    · exact (h.own q).1 hi
  · rcases q with q | q
    · exact h.ne.2.1 q.symm
    · exact (h.own q).2.1 rfl
  · rcases q with q | q
    · have := h.hX; omega
    · have := (h.own q).2.2.2.1; omega
  · rcases hnew j hj with q | q
    · exact h.far j q
    · exact ⟨fun e => by have := h.top.2 j e; omega, fun e => by have := h.top.1; omega⟩

theorem rtwo16 (n : Int) (w : World) (hn : 0 ≤ n ∧ n ≤ 65535) : Calls Tryd.prog 65 #[.int .u16 n] w fun e w' => e = .returned (.slice (some ⟨w.heap.size, 0, none⟩) 2 2) ∧ Mod No w w' ∧ w.heap.size < w'.heap.size ∧ w'.heap[w.heap.size]? = some (.cells ((twoB n).map (Value.int .u8)).toArray 5 (0, 0)) := by
  go_enter Tryd.func65, Tryd.ntmps65
  go_wp2
  go_ret
  have e : twoB n = [n % 256, IntKind.u16.wrap (n.tdiv 256) % 256] := by
    have h1 : IntKind.u16.wrap (n.tdiv 256) = n / 256 := by
      rw [Int.tdiv_eq_ediv_of_nonneg hn.1]
      show (n / 256) % 65536 = n / 256
      omega
    rw [h1]
    unfold twoB
    congr 2
    omega
  refine ⟨rfl, (Mod.refl No w).alloc _, by simp, ?_⟩
  rw [e]
  exact heap_alloc_new w _

theorem rcnew_in (m : Int) (w : World) (h : 0 ≤ m ∧ m < 256) : Calls Tryd.prog 24 #[.int .i64 m] w fun e w' => e = .returned (.tuple #[.pointer (some ⟨w.heap.size, 0, none⟩), .int .i64 0]) ∧ Mod No w w' ∧ RCoM w' w.heap.size ⟨m, 0, 0⟩ (.slice none 0 0) (.slice none 0 0) := by
  have d1 : decide (m < 0) = false := decide_eq_false (by omega)
  have d2 : decide (256 ≤ m) = false := decide_eq_false (by omega)
  go_enter Tryd.func24, Tryd.ntmps24
  go_wp2
  go_ret2
  exact ⟨rfl, (Mod.refl No w).alloc _, heap_alloc_new w _⟩
theorem rcnew_out (m : Int) (w : World) (h : m < 0 ∨ 256 ≤ m) : Calls Tryd.prog 24 #[.int .i64 m] w fun e w' => e = .returned (.tuple #[.pointer none, .int .i64 1]) ∧ w = w' := by
  by_cases c : m < 0
  · have d1 : decide (m < 0) = true := decide_eq_true c
    go_enter Tryd.func24, Tryd.ntmps24
    go_wp2
    go_ret2
    exact ⟨rfl, rfl⟩
  · have d1 : decide (m < 0) = false := decide_eq_false c
    have d2 : decide (256 ≤ m) = true := decide_eq_true (by omega)
    go_enter Tryd.func24, Tryd.ntmps24
    go_wp2
    go_ret2
    exact ⟨rfl, rfl⟩

end Go.Proofs.YtmdeljacbekbpaaDoor

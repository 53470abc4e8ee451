/- The document's back end over a view of the document's. -/
import Derived.Test.YtpfjpfepbhfmeaaRingAns
import Derived.Test.YtpfjpfepbhfmeaaRefVG
namespace Go.Proofs.Ytpfjpfepbhfmeaa
open Go.RowKit
set_option maxRecDepth 100000

def RBkM (w : World) (c : Nat) (k : Bk) : Prop := w.heap[c]? = some (.cells #[.int .i64 k.mfn, .int .u16 k.inn, .int .u16 k.out, .int .u16 k.seen] 111 (0, 0))
theorem RBkM.c {w : World} {b : Nat} {k : Bk} (h : RBkM w b k) : w.cell? ⟨b, 0, none⟩ = some (.int .i64 k.mfn) ∧ w.cell? ⟨b, 1, none⟩ = some (.int .u16 k.inn) ∧ w.cell? ⟨b, 2, none⟩ = some (.int .u16 k.out) ∧ w.cell? ⟨b, 3, none⟩ = some (.int .u16 k.seen) := by
  unfold RBkM at h
  refine ⟨?_, ?_, ?_, ?_⟩ <;> simp [World.cell?, h]
theorem RBkM.f {w : World} {b : Nat} {k : Bk} (h : RBkM w b k) (j : Nat) : w.frozen? ⟨b, j, none⟩ = false := row_free (l := [.int .i64 k.mfn, .int .u16 k.inn, .int .u16 k.out, .int .u16 k.seen]) h j
theorem RBkM.kept {Q : Nat → Prop} {w w' : World} {b : Nat} {k : Bk} (h : RBkM w b k) (hm : Mod Q w w') (hq : ¬ Q b) : RBkM w' b k := hm.blk h hq
theorem RBkM.no {w w' : World} {b : Nat} {k : Bk} (h : RBkM w b k) (hm : Mod No w w') : RBkM w' b k := h.kept hm (fun q => q)
theorem RBkM.lt {w : World} {b : Nat} {k : Bk} (h : RBkM w b k) : b < w.heap.size := lt_of_blk h
theorem RBkM.setI {w : World} {b : Nat} {k : Bk} (h : RBkM w b k) (x : Int) : RBkM (w.setCell ⟨b, 1, none⟩ (.int .u16 x)) b { k with inn := x } := row_set (l := [.int .i64 k.mfn, .int .u16 k.inn, .int .u16 k.out, .int .u16 k.seen]) h 1 _
theorem RBkM.setO {w : World} {b : Nat} {k : Bk} (h : RBkM w b k) (x : Int) : RBkM (w.setCell ⟨b, 2, none⟩ (.int .u16 x)) b { k with out := x } := row_set (l := [.int .i64 k.mfn, .int .u16 k.inn, .int .u16 k.out, .int .u16 k.seen]) h 2 _
theorem RBkM.setS {w : World} {b : Nat} {k : Bk} (h : RBkM w b k) (x : Int) : RBkM (w.setCell ⟨b, 3, none⟩ (.int .u16 x)) b { k with seen := x } := row_set (l := [.int .i64 k.mfn, .int .u16 k.inn, .int .u16 k.out, .int .u16 k.seen]) h 3 _
theorem RBkM.neK {w : World} {b : Nat} {k : Bk} {K : RfK} {S : List Fr} (h : RBkM w b k) (hR : RfM w K S) : ¬ K.has b := by
  unfold RBkM at h
  obtain ⟨c0, d0, _, _, hh⟩ := hR.head
  obtain ⟨rg, hg⟩ := hR.frow
  obtain ⟨rh, hr⟩ := hR.brow
  rintro (e | e | e | e)
  · rw [← e, h] at hh; simp at hh
  · rw [← e, h] at hg; simp at hg
  · rw [← e, h] at hr; simp at hr
  · obtain ⟨p, hp, rfl⟩ := List.mem_map.1 e
    obtain ⟨i, hi⟩ := List.getElem?_of_mem hp
    have hil := (List.getElem?_eq_some_iff.1 hi).1
    have hb := hR.bll
    obtain ⟨_, r, h1⟩ := hR.rows i _ p (List.getElem?_eq_getElem (by omega)) hi
    rw [h1] at h; simp at h

theorem rnew8_in (m : Int) (w : World) (h : 0 ≤ m ∧ m < 256) : Calls Try.prog 56 #[.int .i64 m] w fun e w' => e = .returned (.tuple #[.pointer (some ⟨w.heap.size, 0, none⟩), .int .i64 0]) ∧ Mod No w w' ∧ RBkM w' w.heap.size ⟨m, 0, 0, 0⟩ := by
  have d1 : decide (m < 0) = false := decide_eq_false (by omega)
  have d2 : decide (256 ≤ m) = false := decide_eq_false (by omega)
  go_enter Try.func56, Try.ntmps56
  go_wp2
  go_ret2
  exact ⟨rfl, (Mod.refl No w).alloc _, heap_alloc_new w _⟩
theorem rnew8_out (m : Int) (w : World) (h : m < 0 ∨ 256 ≤ m) : Calls Try.prog 56 #[.int .i64 m] w fun e w' => e = .returned (.tuple #[.pointer none, .int .i64 1]) ∧ w = w' := by
  by_cases c : m < 0
  · have d1 : decide (m < 0) = true := decide_eq_true c
    go_enter Try.func56, Try.ntmps56
    go_wp2
    go_ret2
    exact ⟨rfl, rfl⟩
  · have d1 : decide (m < 0) = false := decide_eq_false c
    have d2 : decide (256 ≤ m) = true := decide_eq_true (by omega)
    go_enter Try.func56, Try.ntmps56
    go_wp2
    go_ret2
    exact ⟨rfl, rfl⟩

theorem rahead_any (x y : Int) (w : World) :
    Calls Try.prog 120 #[.int .u16 x, .int .u16 y] w fun e w' => e = .returned (.tuple #[.int .i64 (aheadR x y).1, .bool (aheadR x y).2]) ∧ w = w' := by
  obtain ⟨d, hd⟩ : ∃ d, d = (x - y) % 65536 := ⟨_, rfl⟩
  have hw := u16_sub hd
  have hd0 : 0 ≤ d ∧ d ≤ 65535 := by omega
  unfold aheadR
  rw [← hd]
  clear hd
  by_cases c : 8 < d
  · have d1 : decide (8 < d) = true := decide_eq_true c
    rw [if_pos c]
    go_enter Try.func120, Try.ntmps120
    go_wp2
    go_ret2
    exact ⟨rfl, rfl⟩
  · have d1 : decide (8 < d) = false := decide_eq_false c
    rw [if_neg c]
    go_enter Try.func120, Try.ntmps120
    go_wp2
    go_ret2
    exact ⟨rfl, rfl⟩

theorem rtwo_any (n : Int) (w : World) (hn : 0 ≤ n ∧ n ≤ 65535) : Calls Try.prog 121 #[.int .u16 n] w fun e w' => e = .returned (.slice (some ⟨w.heap.size, 0, none⟩) 2 2) ∧ Mod No w w' ∧ w.heap.size < w'.heap.size ∧ w'.heap[w.heap.size]? = some (.cells ((twoB n).map (Value.int .u8)).toArray 5 (0, 0)) := by
  go_enter Try.func121, Try.ntmps121
  go_wp2
  go_ret
  have e : twoB n = [n % 256, IntKind.u16.wrap (n.tdiv 256) % 256] := by
    have h1 : IntKind.u16.wrap (n.tdiv 256) = n / 256 := by
      rw [Int.tdiv_eq_ediv_of_nonneg hn.1]
      show (n / 256) % 65536 = n / 256
      omega
    rw [h1]
    unfold twoB
    congr 2
    omega
  refine ⟨rfl, (Mod.refl No w).alloc _, by simp, ?_⟩
  rw [e]
  exact heap_alloc_new w _

theorem rwaiting_made {b : Nat} {k : Bk} (w : World) (h : RBkM w b k) : Calls Try.prog 59 #[.pointer (some ⟨b, 0, none⟩)] w fun e w' => e = .returned (.int .i64 k.wait) ∧ ∃ m, w' = w.drewN m := by
  obtain ⟨c0, c1, c2, c3⟩ := h.c
  obtain ⟨d, hd⟩ : ∃ d, d = (k.seen - k.inn) % 65536 := ⟨_, rfl⟩
  have hw := u16_sub hd
  have hd0 : 0 ≤ d ∧ d ≤ 65535 := by omega
  unfold Bk.wait
  rw [← hd]
  obtain ⟨m, i, o, s⟩ := k
  dsimp only at *
  clear hd h
  go_enter Try.func59, Try.ntmps59
  go_wp2_with fail
  go_quiet (fail)
  go_wp2
  go_ret
  exact ⟨rfl, _, rfl⟩

theorem rwrite_any {K : RfK} {S : List Fr} (i off : Int) (p : Option Addr) (c : Nat) (bs : List Int) (w : World) (h : RfM w K S) (hr : ∀ x ∈ bs, 0 ≤ x ∧ x ≤ 255)
    (hs : 0 < bs.length → ∃ b o, p = some ⟨b, o, none⟩ ∧ ¬ K.inn b ∧ bs.length ≤ c ∧ ∀ j x, bs[j]? = some x → w.cell? ⟨b, o + j, none⟩ = some (.int .u8 x)) :
    Calls Try.prog 79 #[.pointer (some ⟨K.R, 0, none⟩), .int .i64 i, .int .i64 off, .slice p bs.length c] w fun e w' => e = .returned (.int .i64 (wrE S i off bs.length)) ∧ Mod K.inn w w' ∧ RfM w' K (wrR S i off bs) := by
  by_cases hp : InP S i off bs.length
  · obtain ⟨f, hf⟩ : ∃ f, S[i.toNat]? = some f := ⟨_, List.getElem?_eq_getElem (by have := hp.1; omega)⟩
    by_cases ho : f.owner = -1
    · rw [(wrR_free hp hf ho).1, (wrR_free hp hf ho).2]
      refine (rwrite_free i off p bs.length c f w h hp hf ho).mono ?_
      rintro e w' ⟨rfl, rfl⟩
      exact ⟨rfl, Mod.refl _ _, h⟩
    · rw [(wrR_in hp hf ho).1, (wrR_in hp hf ho).2]
      exact rwrite_in i off p bs.length c bs f w h rfl hp hf ho hr hs
  · rw [(wrR_out hp).1, (wrR_out hp).2]
    refine (rwrite_out i off p bs.length c w h hp).mono ?_
    rintro e w' ⟨rfl, rfl⟩
    exact ⟨rfl, Mod.refl _ _, h⟩

/-- The document's machine, a view of it, a back end. -/
structure RV (w0 : World) (X : Nat) (K : RfK) (q : Option Addr) (cap : Nat) (l : List Pk) (N : Int) (S : List Fr) (c : Nat) (k : Bk) (w : World) : Prop where
  r : RfM w K S
  x : RvM w X K q cap l N
  bk : RBkM w c k
  ok : k.ok
  mod : Mod No w0 w
  K : ∀ j, K.has j → w0.heap.size ≤ j
  X : w0.heap.size ≤ X ∧ w0.heap.size ≤ c
def Q3 (K : RfK) (X c : Nat) : Nat → Prop := fun i => K.inn i ∨ i = X ∨ i = c

theorem RV.ne {w0 : World} {X : Nat} {K : RfK} {q : Option Addr} {cap : Nat} {l : List Pk} {N : Int} {S : List Fr} {c : Nat} {k : Bk} {w : World} (h : RV w0 X K q cap l N S c k w) : ¬ K.has c ∧ c ≠ X ∧ ¬ K.has X := by
  have h1 := h.bk
  have h2 := h.x.head
  refine ⟨h.bk.neK h.r, fun e => ?_, ?_⟩
  · unfold RBkM at h1
    rw [e, h2] at h1; simp at h1
  · obtain ⟨c0, d0, _, _, hh⟩ := h.r.head
    rintro (e | e)
    · rw [← e, h2] at hh; simp at hh
    · exact h.x.ne h.r e
theorem RV.no {w0 : World} {X : Nat} {K : RfK} {q : Option Addr} {cap : Nat} {l : List Pk} {N : Int} {S : List Fr} {c : Nat} {k : Bk} {w w' : World} (h : RV w0 X K q cap l N S c k w) (hm : Mod No w w') : RV w0 X K q cap l N S c k w' :=
  ⟨h.r.keptNo hm, h.x.kept hm (fun q => q), h.bk.no hm, h.ok, h.mod.trans hm, h.K, h.X⟩
theorem RV.rvout {w0 : World} {X : Nat} {K : RfK} {q : Option Addr} {cap : Nat} {l : List Pk} {N N' : Int} {S S' : List Fr} {c : Nat} {k : Bk} {w w' : World} (h : RV w0 X K q cap l N S c k w) (o : RVOut X K q cap l N' S' w w') : RV w0 X K q cap l N' S' c k w' ∧ Mod (Q3 K X c) w w' := by
  obtain ⟨n1, n2, n3⟩ := h.ne
  refine ⟨⟨o.r, o.v, h.bk.kept o.mod (fun q => q.elim (fun q => n1 (RfK.inn_has q)) n2), h.ok, h.mod.step o.mod (fun i hi q => ?_), h.K, h.X⟩, o.mod.mono (fun i _ q => q.elim .inl (fun q => .inr (.inl q)))⟩
  rcases q with q | q
  · have := h.K i (RfK.inn_has q); omega
  · have := h.X.1; omega
theorem RV.set {w0 : World} {X : Nat} {K : RfK} {q : Option Addr} {cap : Nat} {l : List Pk} {N : Int} {S : List Fr} {c : Nat} {k k' : Bk} {w : World} (h : RV w0 X K q cap l N S c k w) (j : Nat) (v : Value) (hk : RBkM (w.setCell ⟨c, j, none⟩ v) c k') (ok : k'.ok) :
    RV w0 X K q cap l N S c k' (w.setCell ⟨c, j, none⟩ v) ∧ Mod (Q3 K X c) w (w.setCell ⟨c, j, none⟩ v) := by
  obtain ⟨n1, n2, n3⟩ := h.ne
  have hm : Mod (One c) w (w.setCell ⟨c, j, none⟩ v) := (Mod.refl _ w).set1 j v
  exact ⟨⟨h.r.kept hm (fun i hi (q : i = c) => n1 (q ▸ hi)), h.x.kept hm (fun (q : X = c) => n2 q.symm), hk, ok, h.mod.step hm (fun i hi (q : i = c) => by have := h.X.2; omega), h.K, h.X⟩, hm.mono (fun i _ (q : i = c) => .inr (.inr q))⟩
theorem RV.wrote {w0 : World} {X : Nat} {K : RfK} {q : Option Addr} {cap : Nat} {l : List Pk} {N : Int} {S S' : List Fr} {c : Nat} {k : Bk} {w w' : World} (h : RV w0 X K q cap l N S c k w) (hm : Mod K.inn w w') (hr : RfM w' K S') : RV w0 X K q cap l N S' c k w' ∧ Mod (Q3 K X c) w w' := by
  obtain ⟨n1, n2, n3⟩ := h.ne
  exact ⟨⟨hr, h.x.kept hm (fun q => n3 (RfK.inn_has q)), h.bk.kept hm (fun q => n1 (RfK.inn_has q)), h.ok, h.mod.step hm (fun i hi q => by have := h.K i (RfK.inn_has q); omega), h.K, h.X⟩, hm.mono (fun i _ q => .inl q)⟩

set_option maxHeartbeats 4000000 in
theorem rlook_any {w0 : World} {X : Nat} {K : RfK} {q : Option Addr} {cap : Nat} {l : List Pk} {N : Int} {S : List Fr} {c : Nat} {k : Bk} (w : World) (h : RV w0 X K q cap l N S c k w) (hs : PkS w0 q l) (hN : 0 ≤ N ∧ N < 4611686018427387904) (hl : l.length ≤ 140737488355328) :
    Calls Try.prog 106 #[.pointer (some ⟨c, 0, none⟩), .pointer (some ⟨X, 0, none⟩)] w fun e w' => e = .returned (.tuple #[.int .i64 (k.look (pokes (dueAt l N) S)).1.1, .bool (k.look (pokes (dueAt l N) S)).1.2.1, .int .i64 (k.look (pokes (dueAt l N) S)).1.2.2]) ∧
      RV w0 X K q cap l (N + 1) (pokes (dueAt l N) S) c (k.look (pokes (dueAt l N) S)).2 w' ∧ Mod (Q3 K X c) w w' := by
  have HC := Lib.hid h
  obtain ⟨c0, c1, c2, c3⟩ := h.bk.c
  have hi := h.ok.i
  by_cases hr : 0 ≤ k.mfn ∧ k.mfn < S.length
  · obtain ⟨f, hf⟩ : ∃ f, (pokes (dueAt l N) S)[k.mfn.toNat]? = some f := ⟨_, List.getElem?_eq_getElem (by rw [pokes_len]; omega)⟩
    have hfo : f.ok := hs.okS h.r.ok N f (List.mem_of_getElem? hf)
    have hwr := word2_range hfo
    have hlk := look_in hr.1 hf
    have HLO := Lib.hid (look_ok (S := pokes (dueAt l N) S) h.ok)
    rw [hlk] at HLO
    rw [hlk]
    have HW := Lib.hid (rvword_ok k.mfn 0 f w0 w hs h.mod h.K h.r h.x hN hl ⟨hr, by omega, by omega, by omega⟩ hf)
    rw [show ((0 : Int).toNat) = 0 from rfl] at HW
    generalize word2 ((f.bytes.drop 0).take 2) = x at HW hwr HLO ⊢
    have hra := aheadR_range x k.inn
    have HA := Lib.hid (fun w' => rahead_any x k.inn w')
    generalize aheadR x k.inn = a at hra HA HLO ⊢
    obtain ⟨n, cl⟩ := a
    dsimp only at hra HA HLO ⊢
    obtain ⟨y, hy⟩ : ∃ y, y = (k.inn + n) % 65536 := ⟨_, rfl⟩
    have hyw : IntKind.u16.wrap (k.inn + n) = y := by rw [hy]; rfl
    rw [← hy] at HLO
    rw [← hy]
    clear h hf hfo hlk hy
    go_enter Try.func106, Try.ntmps106
    go_wp2_with fail
    refine HW.out.mono ?_
    rintro e w1 ⟨rfl, ho⟩
    obtain ⟨hc1, hm1⟩ := HC.out.rvout ho
    have HC1 := Lib.hid hc1
    have HM1 := Lib.hid hm1
    clear c0 c1 c2 c3 ho hm1
    obtain ⟨c0, c1, c2, c3⟩ := hc1.bk.c
    have f3 := hc1.bk.f 3
    clear hc1
    go_wp2_with (go_at_call 120; refine (HA.out _).mono ?_; rintro e w' ⟨rfl, rfl⟩)
    go_ret3
    obtain ⟨hc2, hm2⟩ := HC1.out.set 3 (.int .u16 y) (HC1.out.bk.setS y) HLO.out
    exact ⟨rfl, hc2, HM1.out.trans hm2⟩
  · have hlk : k.look (pokes (dueAt l N) S) = ((0, false, 1), k) := look_out (by rw [pokes_len]; omega)
    rw [hlk]
    have HW := Lib.hid (rvword_bad k.mfn 0 w0 w hs h.mod h.K h.r h.x hN hl (fun q => hr q.1))
    clear h hlk
    go_enter Try.func106, Try.ntmps106
    go_wp2_with fail
    refine HW.out.mono ?_
    rintro e w1 ⟨rfl, ho⟩
    obtain ⟨hc1, hm1⟩ := HC.out.rvout ho
    have HC1 := Lib.hid hc1
    have HM1 := Lib.hid hm1
    clear ho hm1 hc1 c0 c1 c2 c3
    go_wp2
    go_ret3
    exact ⟨rfl, HC1.out, HM1.out⟩

end Go.Proofs.Ytpfjpfepbhfmeaa

/- The ring's back end: what it is in memory; its small functions. -/
import Derived.Test.YtpfjpfepbhfmeaaViewG
namespace Go.Proofs.Ytpfjpfepbhfmeaa
open Go.RowKit
set_option maxRecDepth 100000

/-- A back end (the code's and the document's): page, taken, laid, seen. -/
structure Bk where
  mfn : Int
  inn : Int
  out : Int
  seen : Int
structure Bk.ok (k : Bk) : Prop where
  i : 0 ≤ k.inn ∧ k.inn ≤ 65535
  o : 0 ≤ k.out ∧ k.out ≤ 65535
  s : 0 ≤ k.seen ∧ k.seen ≤ 65535
def Bk.btw (k : Bk) : Int := (k.inn - k.out) % 65536
def Bk.wait (k : Bk) : Int := (k.seen - k.inn) % 65536
def aheadR (index taken : Int) : Int × Bool := if 8 < (index - taken) % 65536 then (8, true) else ((index - taken) % 65536, false)
theorem aheadR_range (x y : Int) : 0 ≤ (aheadR x y).1 ∧ (aheadR x y).1 ≤ 8 := by
  unfold aheadR; split
  · exact ⟨by decide, by decide⟩
  · exact ⟨by simp only; omega, by simp only; omega⟩

def BkM (w : World) (b : Nat) (k : Bk) : Prop := w.heap[b]? = some (.cells #[.bool true, .int .i64 k.mfn, .int .u16 k.inn, .int .u16 k.out, .int .u16 k.seen] 116 (0, 0))
theorem BkM.c {w : World} {b : Nat} {k : Bk} (h : BkM w b k) : w.cell? ⟨b, 0, none⟩ = some (.bool true) ∧ w.cell? ⟨b, 1, none⟩ = some (.int .i64 k.mfn) ∧ w.cell? ⟨b, 2, none⟩ = some (.int .u16 k.inn) ∧ w.cell? ⟨b, 3, none⟩ = some (.int .u16 k.out) ∧ w.cell? ⟨b, 4, none⟩ = some (.int .u16 k.seen) := by
  unfold BkM at h
  refine ⟨?_, ?_, ?_, ?_, ?_⟩ <;> simp [World.cell?, h]
theorem BkM.f {w : World} {b : Nat} {k : Bk} (h : BkM w b k) (j : Nat) : w.frozen? ⟨b, j, none⟩ = false := row_free (l := [.bool true, .int .i64 k.mfn, .int .u16 k.inn, .int .u16 k.out, .int .u16 k.seen]) h j
theorem BkM.kept {Q : Nat → Prop} {w w' : World} {b : Nat} {k : Bk} (h : BkM w b k) (hm : Mod Q w w') (hq : ¬ Q b) : BkM w' b k := hm.blk h hq
theorem BkM.no {w w' : World} {b : Nat} {k : Bk} (h : BkM w b k) (hm : Mod No w w') : BkM w' b k := h.kept hm (fun q => q)
theorem BkM.lt {w : World} {b : Nat} {k : Bk} (h : BkM w b k) : b < w.heap.size := lt_of_blk h
theorem BkM.setI {w : World} {b : Nat} {k : Bk} (h : BkM w b k) (x : Int) : BkM (w.setCell ⟨b, 2, none⟩ (.int .u16 x)) b { k with inn := x } := row_set (l := [.bool true, .int .i64 k.mfn, .int .u16 k.inn, .int .u16 k.out, .int .u16 k.seen]) h 2 _
theorem BkM.setO {w : World} {b : Nat} {k : Bk} (h : BkM w b k) (x : Int) : BkM (w.setCell ⟨b, 3, none⟩ (.int .u16 x)) b { k with out := x } := row_set (l := [.bool true, .int .i64 k.mfn, .int .u16 k.inn, .int .u16 k.out, .int .u16 k.seen]) h 3 _
theorem BkM.setS {w : World} {b : Nat} {k : Bk} (h : BkM w b k) (x : Int) : BkM (w.setCell ⟨b, 4, none⟩ (.int .u16 x)) b { k with seen := x } := row_set (l := [.bool true, .int .i64 k.mfn, .int .u16 k.inn, .int .u16 k.out, .int .u16 k.seen]) h 4 _
theorem BkM.neF {w : World} {b B F : Nat} {k : Bk} {S : List Fr} (h : BkM w b k) (hp : PhM w B F S) : b ≠ F ∧ b ≠ B := by
  obtain ⟨r, hr⟩ := hp.row
  obtain ⟨c, _, hc⟩ := hp.head
  unfold BkM at h
  exact ⟨fun e => by rw [← e, h] at hr; simp at hr, fun e => by rw [← e, h] at hc; simp at hc⟩

theorem u16_sub {x y d : Int} (h : d = (x - y) % 65536) : IntKind.u16.wrap (x - y) = d := by
  rw [h]; rfl

theorem bnone_made {b : Nat} {k : Bk} (w : World) (h : BkM w b k) : Calls Try.prog 99 #[.pointer (some ⟨b, 0, none⟩)] w fun e w' => e = .returned (.bool false) ∧ w = w' := by
  obtain ⟨c0, _⟩ := h.c
  go_enter Try.func99, Try.ntmps99
  go_wp2
  go_ret
  exact ⟨rfl, rfl⟩

theorem unmade_made {base top B : Nat} {k : ViK} {N : Int} {l : List Pk} (w : World) (h : ViM w base top k B N l) : Calls Try.prog 100 #[.pointer (some ⟨k.V, 0, none⟩)] w fun e w' => e = .returned (.bool false) ∧ w = w' := by
  have HM := Lib.hid (vmachine_made k.V B w h.c0.1)
  clear h
  go_enter Try.func100, Try.ntmps100
  go_wp2_with (go_at_call 29; refine HM.out.mono ?_; rintro e w' ⟨rfl, rfl⟩)
  go_ret
  exact ⟨rfl, rfl⟩

theorem ahead_any (x y : Int) (w : World) :
    Calls Try.prog 101 #[.int .u16 x, .int .u16 y] w fun e w' => e = .returned (.tuple #[.int .i64 (aheadR x y).1, .bool (aheadR x y).2]) ∧ w = w' := by
  obtain ⟨d, hd⟩ : ∃ d, d = (x - y) % 65536 := ⟨_, rfl⟩
  have hw := u16_sub hd
  have hd0 : 0 ≤ d ∧ d ≤ 65535 := by omega
  unfold aheadR
  rw [← hd]
  clear hd
  by_cases c : 8 < d
  · have d1 : decide (8 < d) = true := decide_eq_true c
    rw [if_pos c]
    go_enter Try.func101, Try.ntmps101
    go_wp2
    go_ret2
    exact ⟨rfl, rfl⟩
  · have d1 : decide (8 < d) = false := decide_eq_false c
    rw [if_neg c]
    go_enter Try.func101, Try.ntmps101
    go_wp2
    go_ret2
    exact ⟨rfl, rfl⟩

theorem waiting_made {b : Nat} {k : Bk} (w : World) (h : BkM w b k) (ho : k.ok) : Calls Try.prog 58 #[.pointer (some ⟨b, 0, none⟩)] w fun e w' => e = .returned (.int .i64 k.wait) ∧ Mod No w w' := by
  have HN := Lib.hid (bnone_made w h)
  obtain ⟨c0, c1, c2, c3, c4⟩ := h.c
  obtain ⟨d, hd⟩ : ∃ d, d = (k.seen - k.inn) % 65536 := ⟨_, rfl⟩
  have hw := u16_sub hd
  have hd0 : 0 ≤ d ∧ d ≤ 65535 := by omega
  have hi := ho.i
  have hs := ho.s
  unfold Bk.wait
  rw [← hd]
  obtain ⟨m, i, o, s⟩ := k
  dsimp only at *
  clear hd h ho
  go_enter Try.func58, Try.ntmps58
  go_wp2_with (go_at_call 99; refine HN.out.mono ?_; rintro e w' ⟨rfl, rfl⟩)
  go_quiet (fail)
  go_wp2
  go_ret
  exact ⟨rfl, (Mod.refl No w).drewN _⟩

theorem between_any (m i o : Int) (w : World) : Calls Try.prog 102 #[.agg #[.bool true, .int .i64 m, .int .u16 i, .int .u16 o]] w fun e w' => e = .returned (.int .i64 ((i - o) % 65536)) ∧ Mod No w w' := by
  obtain ⟨d, hd⟩ : ∃ d, d = (i - o) % 65536 := ⟨_, rfl⟩
  have hw := u16_sub hd
  have hd0 : 0 ≤ d ∧ d ≤ 65535 := by omega
  rw [← hd]
  clear hd
  go_enter Try.func102, Try.ntmps102
  go_wp2
  go_ret
  exact ⟨rfl, (Mod.refl No w).alloc _⟩

theorem slotQ_any (b n : Int) (w : World) (hb : 0 ≤ b ∧ b ≤ 1000) (hn : 0 ≤ n ∧ n ≤ 65535) : Calls Try.prog 103 #[.int .i64 b, .int .u16 n] w fun e w' => e = .returned (.tuple #[.int .i64 (b + 16 * (n % 8)), .int .i64 16]) ∧ Mod No w w' := by
  go_enter Try.func103, Try.ntmps103
  go_wp2_with fail
  go_quiet (fail)
  go_wp2
  go_ret2
  exact ⟨rfl, ((Mod.refl No w).alloc _).drewN _⟩

theorem slotR_any (b n : Int) (w : World) (hb : 0 ≤ b ∧ b ≤ 1000) (hn : 0 ≤ n ∧ n ≤ 65535) : Calls Try.prog 104 #[.int .i64 b, .int .u16 n] w fun e w' => e = .returned (.tuple #[.int .i64 (b + 8 * (n % 8)), .int .i64 8]) ∧ Mod No w w' := by
  go_enter Try.func104, Try.ntmps104
  go_wp2_with fail
  go_quiet (fail)
  go_wp2
  go_ret2
  exact ⟨rfl, ((Mod.refl No w).alloc _).drewN _⟩

def twoB (n : Int) : List Int := [n % 256, n / 256]
theorem twoB_range {n : Int} (h : 0 ≤ n ∧ n ≤ 65535) : ∀ x ∈ twoB n, 0 ≤ x ∧ x ≤ 255 := by
  intro x hx
  simp only [twoB, List.mem_cons, List.not_mem_nil, or_false] at hx
  rcases hx with rfl | rfl <;> omega
theorem two_any (n : Int) (w : World) (hn : 0 ≤ n ∧ n ≤ 65535) : Calls Try.prog 105 #[.int .u16 n] w fun e w' => e = .returned (.slice (some ⟨w.heap.size, 0, none⟩) 2 2) ∧ Mod No w w' ∧ w.heap.size < w'.heap.size ∧ w'.heap[w.heap.size]? = some (.cells ((twoB n).map (Value.int .u8)).toArray 5 (0, 0)) := by
  go_enter Try.func105, Try.ntmps105
  go_wp2
  go_ret
  exact ⟨rfl, (Mod.refl No w).alloc _, by simp, heap_alloc_new w _⟩

theorem taken_made {b : Nat} {k : Bk} (w : World) (h : BkM w b k) : Calls Try.prog 53 #[.pointer (some ⟨b, 0, none⟩)] w fun e w' => e = .returned (.int .u16 k.inn) ∧ w = w' := by
  have HN := Lib.hid (bnone_made w h)
  obtain ⟨c0, c1, c2, c3, c4⟩ := h.c
  go_enter Try.func53, Try.ntmps53
  go_wp2_with (go_at_call 99; refine HN.out.mono ?_; rintro e w' ⟨rfl, rfl⟩)
  go_ret
  exact ⟨rfl, rfl⟩
theorem laid_made {b : Nat} {k : Bk} (w : World) (h : BkM w b k) : Calls Try.prog 54 #[.pointer (some ⟨b, 0, none⟩)] w fun e w' => e = .returned (.int .u16 k.out) ∧ w = w' := by
  have HN := Lib.hid (bnone_made w h)
  obtain ⟨c0, c1, c2, c3, c4⟩ := h.c
  go_enter Try.func54, Try.ntmps54
  go_wp2_with (go_at_call 99; refine HN.out.mono ?_; rintro e w' ⟨rfl, rfl⟩)
  go_ret
  exact ⟨rfl, rfl⟩
theorem bmfn_made {b : Nat} {k : Bk} (w : World) (h : BkM w b k) : Calls Try.prog 60 #[.pointer (some ⟨b, 0, none⟩)] w fun e w' => e = .returned (.int .i64 k.mfn) ∧ w = w' := by
  have HN := Lib.hid (bnone_made w h)
  obtain ⟨c0, c1, c2, c3, c4⟩ := h.c
  go_enter Try.func60, Try.ntmps60
  go_wp2_with (go_at_call 99; refine HN.out.mono ?_; rintro e w' ⟨rfl, rfl⟩)
  go_ret
  exact ⟨rfl, rfl⟩

theorem bnew_in (m : Int) (w : World) (h : 0 ≤ m ∧ m < 256) : Calls Try.prog 48 #[.int .i64 m] w fun e w' => e = .returned (.tuple #[.pointer (some ⟨w.heap.size, 0, none⟩), .int .i64 0]) ∧ Mod No w w' ∧ BkM w' w.heap.size ⟨m, 0, 0, 0⟩ := by
  have d1 : decide (m < 0) = false := decide_eq_false (by omega)
  have d2 : decide (256 ≤ m) = false := decide_eq_false (by omega)
  go_enter Try.func48, Try.ntmps48
  go_wp2
  go_ret2
  exact ⟨rfl, (Mod.refl No w).alloc _, heap_alloc_new w _⟩
theorem bnew_out (m : Int) (w : World) (h : m < 0 ∨ 256 ≤ m) : Calls Try.prog 48 #[.int .i64 m] w fun e w' => e = .returned (.tuple #[.pointer none, .int .i64 1]) ∧ w = w' := by
  by_cases c : m < 0
  · have d1 : decide (m < 0) = true := decide_eq_true c
    go_enter Try.func48, Try.ntmps48
    go_wp2
    go_ret2
    exact ⟨rfl, rfl⟩
  · have d1 : decide (m < 0) = false := decide_eq_false c
    have d2 : decide (256 ≤ m) = true := decide_eq_true (by omega)
    go_enter Try.func48, Try.ntmps48
    go_wp2
    go_ret2
    exact ⟨rfl, rfl⟩

end Go.Proofs.Ytpfjpfepbhfmeaa

/- The document's letter and hex. -/
import Derived.Test.YtmdeljacbekbpaaDoorConsShow
namespace Go.Proofs.YtmdeljacbekbpaaDoor
open Go.RowKit
set_option maxRecDepth 100000

def xAt (bs : List Int) (j : Nat) : Int := bs.getD j 0
/-- The bytes behind the first, folded; none: one is no continuation. -/
def runL (bs : List Int) : Nat → Nat → Int → Option Int
  | 0, _, v => some v
  | f + 1, i, v => if xAt bs i < 128 ∨ 192 ≤ xAt bs i then none else runL bs f (i + 1) (64 * v + xAt bs i - 128)
def letEnd (n : Nat) : Option Int → Int × Int
  | none => (0, 0)
  | some v => if (n = 3 ∧ (v < 2048 ∨ (55296 ≤ v ∧ v < 57344))) ∨ (n = 4 ∧ (v < 65536 ∨ 1114111 < v)) then (0, 0) else ((n : Int), v)
def lettR (bs : List Int) : Int × Int :=
  if xAt bs 0 < 128 then (1, xAt bs 0)
  else if 194 ≤ xAt bs 0 ∧ xAt bs 0 < 224 then (if bs.length < 2 then (0, 0) else letEnd 2 (runL bs 1 1 (xAt bs 0 - 192)))
  else if 224 ≤ xAt bs 0 ∧ xAt bs 0 < 240 then (if bs.length < 3 then (0, 0) else letEnd 3 (runL bs 2 1 (xAt bs 0 - 224)))
  else if 240 ≤ xAt bs 0 ∧ xAt bs 0 < 245 then (if bs.length < 4 then (0, 0) else letEnd 4 (runL bs 3 1 (xAt bs 0 - 240)))
  else (0, 0)

theorem xAt_of {bs : List Int} {j : Nat} (h : j < bs.length) : bs[j]? = some (xAt bs j) := by
  unfold xAt
  rw [List.getD_eq_getElem?_getD, List.getElem?_eq_getElem h]
  rfl

set_option maxHeartbeats 8000000 in
theorem refletter_any (g off cap : Nat) (bs : List Int) (w : World) (h0 : 0 < bs.length) (hl : bs.length ≤ 140737488355328) (hr : ∀ x ∈ bs, 0 ≤ x ∧ x ≤ 255)
    (hc : ∀ j x, bs[j]? = some x → w.cell? ⟨g, off + j, none⟩ = some (.int .u8 x)) :
    Calls Tryd.prog 30 #[.slice (some ⟨g, off, none⟩) bs.length cap] w fun e w' => e = .returned (.tuple #[.int .i64 (lettR bs).1, .int .i64 (lettR bs).2]) ∧ w = w' := by
  obtain ⟨c, hx⟩ : ∃ c, c = xAt bs 0 := ⟨_, rfl⟩
  have hcc : w.cell? ⟨g, off, none⟩ = some (.int .u8 c) := by rw [hx]; exact hc 0 _ (xAt_of h0)
  have hcr := hr _ (List.mem_of_getElem? (xAt_of h0))
  rw [← hx] at hcr
  have hCs : ∀ j, j < bs.length → w.cell? ⟨g, off + j, none⟩ = some (.int .u8 (xAt bs j)) ∧ 0 ≤ xAt bs j ∧ xAt bs j ≤ 255 := fun j hj => ⟨hc j _ (xAt_of hj), hr _ (List.mem_of_getElem? (xAt_of hj))⟩
  have HCS := Lib.hid hCs
  unfold lettR
  rw [← hx]
  have HX := Lib.hid hx
  clear hc hr hCs hx
  by_cases c1 : c < 128
  · rw [if_pos c1]
    go_enter Tryd.func30, Tryd.ntmps30
    go_wp2_with fail
    go_ret2
    exact ⟨rfl, rfl⟩
  rw [if_neg c1]
  by_cases d2 : 194 ≤ c ∧ c < 224
  · rw [if_pos d2]
    obtain ⟨e1, e2⟩ := d2
    by_cases hn : bs.length < 2
    · rw [if_pos hn]
      have hn2 : (bs.length : Int) < 2 := by omega
      go_enter Tryd.func30, Tryd.ntmps30
      go_wp2_with fail
      go_ret2
      exact ⟨rfl, rfl⟩
    · rw [if_neg hn]
      have hn2 : ¬ (bs.length : Int) < 2 := by omega
      go_enter Tryd.func30, Tryd.ntmps30
      go_wp2_with fail
      go_loopw [6, 7] (fun vv vi wx => ∃ (i : Nat) (v : Int), vv = .int .i64 v ∧ vi = .int .i64 i ∧ wx = w ∧ 1 ≤ i ∧ i ≤ 2 ∧ 0 ≤ v ∧ ((i = 1 → v ≤ 31) ∧ (i = 2 → v ≤ 2047)) ∧ runL bs (2 - i) i v = runL bs (1) 1 (c - 192)) (fun _ vi _ => 2 - (intOf vi).toNat)
      case atStart => exact ⟨1, c - 192, by go_num, rfl, rfl, by omega, by omega, by omega, by omega, rfl⟩
      case round =>
        obtain ⟨i, v, rfl, rfl, rfl, hi1, hi2, hv0, hvb, hrun⟩ := hrel
        by_cases hin : i < 2
        · have hin2 : (i : Int) < 2 := by omega
          obtain ⟨hci, hxr⟩ := HCS.out i (by omega)
          obtain ⟨x, hx⟩ : ∃ x, x = xAt bs i := ⟨_, rfl⟩
          rw [← hx] at hci hxr
          have hil : (i : Int) < bs.length := by omega
          have hi0 : (0 : Int) ≤ i := by omega
          obtain ⟨f, hf⟩ : ∃ f, 2 - i = f + 1 := ⟨2 - i - 1, by omega⟩
          rw [hf, runL, ← hx] at hrun
          clear hx
          by_cases hx1 : x < 128
          · rw [if_pos (.inl hx1)] at hrun
            have HRUN := Lib.hid hrun
            clear hrun
            go_wp2_with fail
            go_ret2
            rw [← HRUN.out]
            exact ⟨rfl, rfl⟩
          · by_cases hx2 : 192 ≤ x
            · rw [if_pos (.inr hx2)] at hrun
              have HRUN := Lib.hid hrun
              clear hrun
              go_wp2_with fail
              go_ret2
              rw [← HRUN.out]
              exact ⟨rfl, rfl⟩
            · rw [if_neg (by omega)] at hrun
              have m1 : IntKind.i64.wrap (64 * v) = 64 * v := IntWalk.i64_in _ (by omega)
              have m2 : IntKind.i64.wrap (64 * v + x) = 64 * v + x := IntWalk.i64_in _ (by omega)
              have m3 : IntKind.i64.wrap (64 * v + x - 128) = 64 * v + x - 128 := IntWalk.i64_in _ (by omega)
              have HRUN := Lib.hid hrun
              clear hrun
              go_wp2_with fail
              refine ⟨⟨i + 1, 64 * v + x - 128, by first | trivial | rfl, by first | trivial | go_num, by first | trivial | rfl, by omega, by omega, by omega, by omega, ?_⟩, by simp [intOf]; omega⟩
              have e9 : 2 - (i + 1) = f := by omega
              rw [e9]; exact HRUN.out
        · have hin2 : ¬ (i : Int) < 2 := by omega
          obtain rfl : i = 2 := by omega
          rw [runL] at hrun
          have HRUN := Lib.hid hrun
          clear hrun
          go_wp2_with fail
          go_ret2
          rw [← HRUN.out, letEnd, if_neg (by omega)]
          exact ⟨rfl, rfl⟩
  rw [if_neg d2]
  by_cases d3 : 224 ≤ c ∧ c < 240
  · rw [if_pos d3]
    obtain ⟨e1, e2⟩ := d3
    by_cases hn : bs.length < 3
    · rw [if_pos hn]
      have hn2 : (bs.length : Int) < 3 := by omega
      go_enter Tryd.func30, Tryd.ntmps30
      go_wp2_with fail
      go_ret2
      exact ⟨rfl, rfl⟩
    · rw [if_neg hn]
      have hn2 : ¬ (bs.length : Int) < 3 := by omega
      go_enter Tryd.func30, Tryd.ntmps30
      go_wp2_with fail
      go_loopw [6, 7] (fun vv vi wx => ∃ (i : Nat) (v : Int), vv = .int .i64 v ∧ vi = .int .i64 i ∧ wx = w ∧ 1 ≤ i ∧ i ≤ 3 ∧ 0 ≤ v ∧ ((i = 1 → v ≤ 15) ∧ (i = 2 → v ≤ 1023) ∧ (i = 3 → v ≤ 65535)) ∧ runL bs (3 - i) i v = runL bs (2) 1 (c - 224)) (fun _ vi _ => 3 - (intOf vi).toNat)
      case atStart => exact ⟨1, c - 224, by go_num, rfl, rfl, by omega, by omega, by omega, by omega, rfl⟩
      case round =>
        obtain ⟨i, v, rfl, rfl, rfl, hi1, hi2, hv0, hvb, hrun⟩ := hrel
        by_cases hin : i < 3
        · have hin2 : (i : Int) < 3 := by omega
          obtain ⟨hci, hxr⟩ := HCS.out i (by omega)
          obtain ⟨x, hx⟩ : ∃ x, x = xAt bs i := ⟨_, rfl⟩
          rw [← hx] at hci hxr
          have hil : (i : Int) < bs.length := by omega
          have hi0 : (0 : Int) ≤ i := by omega
          obtain ⟨f, hf⟩ : ∃ f, 3 - i = f + 1 := ⟨3 - i - 1, by omega⟩
          rw [hf, runL, ← hx] at hrun
          clear hx
          by_cases hx1 : x < 128
          · rw [if_pos (.inl hx1)] at hrun
            have HRUN := Lib.hid hrun
            clear hrun
            go_wp2_with fail
            go_ret2
            rw [← HRUN.out]
            exact ⟨rfl, rfl⟩
          · by_cases hx2 : 192 ≤ x
            · rw [if_pos (.inr hx2)] at hrun
              have HRUN := Lib.hid hrun
              clear hrun
              go_wp2_with fail
              go_ret2
              rw [← HRUN.out]
              exact ⟨rfl, rfl⟩
            · rw [if_neg (by omega)] at hrun
              have m1 : IntKind.i64.wrap (64 * v) = 64 * v := IntWalk.i64_in _ (by omega)
              have m2 : IntKind.i64.wrap (64 * v + x) = 64 * v + x := IntWalk.i64_in _ (by omega)
              have m3 : IntKind.i64.wrap (64 * v + x - 128) = 64 * v + x - 128 := IntWalk.i64_in _ (by omega)
              have HRUN := Lib.hid hrun
              clear hrun
              go_wp2_with fail
              refine ⟨⟨i + 1, 64 * v + x - 128, by first | trivial | rfl, by first | trivial | go_num, by first | trivial | rfl, by omega, by omega, by omega, by omega, ?_⟩, by simp [intOf]; omega⟩
              have e9 : 3 - (i + 1) = f := by omega
              rw [e9]; exact HRUN.out
        · have hin2 : ¬ (i : Int) < 3 := by omega
          obtain rfl : i = 3 := by omega
          rw [runL] at hrun
          have HRUN := Lib.hid hrun
          clear hrun
          by_cases q1 : v < 2048
          · go_wp2_with fail
            go_ret2
            rw [← HRUN.out, letEnd, if_pos (by omega)]
            exact ⟨rfl, rfl⟩
          by_cases q2 : 55296 ≤ v
          · by_cases q3 : v < 57344
            · go_wp2_with fail
              go_ret2
              rw [← HRUN.out, letEnd, if_pos (by omega)]
              exact ⟨rfl, rfl⟩
            · go_wp2_with fail
              go_ret2
              rw [← HRUN.out, letEnd, if_neg (by omega)]
              exact ⟨rfl, rfl⟩
          · go_wp2_with fail
            go_ret2
            rw [← HRUN.out, letEnd, if_neg (by omega)]
            exact ⟨rfl, rfl⟩
  rw [if_neg d3]
  by_cases d4 : 240 ≤ c ∧ c < 245
  · rw [if_pos d4]
    obtain ⟨e1, e2⟩ := d4
    by_cases hn : bs.length < 4
    · rw [if_pos hn]
      have hn2 : (bs.length : Int) < 4 := by omega
      go_enter Tryd.func30, Tryd.ntmps30
      go_wp2_with fail
      go_ret2
      exact ⟨rfl, rfl⟩
    · rw [if_neg hn]
      have hn2 : ¬ (bs.length : Int) < 4 := by omega
      go_enter Tryd.func30, Tryd.ntmps30
      go_wp2_with fail
      go_loopw [6, 7] (fun vv vi wx => ∃ (i : Nat) (v : Int), vv = .int .i64 v ∧ vi = .int .i64 i ∧ wx = w ∧ 1 ≤ i ∧ i ≤ 4 ∧ 0 ≤ v ∧ ((i = 1 → v ≤ 4) ∧ (i = 2 → v ≤ 319) ∧ (i = 3 → v ≤ 20479) ∧ (i = 4 → v ≤ 1310719)) ∧ runL bs (4 - i) i v = runL bs (3) 1 (c - 240)) (fun _ vi _ => 4 - (intOf vi).toNat)
      case atStart => exact ⟨1, c - 240, by go_num, rfl, rfl, by omega, by omega, by omega, by omega, rfl⟩
      case round =>
        obtain ⟨i, v, rfl, rfl, rfl, hi1, hi2, hv0, hvb, hrun⟩ := hrel
        by_cases hin : i < 4
        · have hin2 : (i : Int) < 4 := by omega
          obtain ⟨hci, hxr⟩ := HCS.out i (by omega)
          obtain ⟨x, hx⟩ : ∃ x, x = xAt bs i := ⟨_, rfl⟩
          rw [← hx] at hci hxr
          have hil : (i : Int) < bs.length := by omega
          have hi0 : (0 : Int) ≤ i := by omega
          obtain ⟨f, hf⟩ : ∃ f, 4 - i = f + 1 := ⟨4 - i - 1, by omega⟩
          rw [hf, runL, ← hx] at hrun
          clear hx
          by_cases hx1 : x < 128
          · rw [if_pos (.inl hx1)] at hrun
            have HRUN := Lib.hid hrun
            clear hrun
            go_wp2_with fail
            go_ret2
            rw [← HRUN.out]
            exact ⟨rfl, rfl⟩
          · by_cases hx2 : 192 ≤ x
            · rw [if_pos (.inr hx2)] at hrun
              have HRUN := Lib.hid hrun
              clear hrun
              go_wp2_with fail
              go_ret2
              rw [← HRUN.out]
              exact ⟨rfl, rfl⟩
            · rw [if_neg (by omega)] at hrun
              have m1 : IntKind.i64.wrap (64 * v) = 64 * v := IntWalk.i64_in _ (by omega)
              have m2 : IntKind.i64.wrap (64 * v + x) = 64 * v + x := IntWalk.i64_in _ (by omega)
              have m3 : IntKind.i64.wrap (64 * v + x - 128) = 64 * v + x - 128 := IntWalk.i64_in _ (by omega)
              have HRUN := Lib.hid hrun
              clear hrun
              go_wp2_with fail
              refine ⟨⟨i + 1, 64 * v + x - 128, by first | trivial | rfl, by first | trivial | go_num, by first | trivial | rfl, by omega, by omega, by omega, by omega, ?_⟩, by simp [intOf]; omega⟩
              have e9 : 4 - (i + 1) = f := by omega
              rw [e9]; exact HRUN.out
        · have hin2 : ¬ (i : Int) < 4 := by omega
          obtain rfl : i = 4 := by omega
          rw [runL] at hrun
          have HRUN := Lib.hid hrun
          clear hrun
          by_cases q1 : v < 65536
          · go_wp2_with fail
            go_ret2
            rw [← HRUN.out, letEnd, if_pos (by omega)]
            exact ⟨rfl, rfl⟩
          by_cases q2 : 1114111 < v
          · go_wp2_with fail
            go_ret2
            rw [← HRUN.out, letEnd, if_pos (by omega)]
            exact ⟨rfl, rfl⟩
          · go_wp2_with fail
            go_ret2
            rw [← HRUN.out, letEnd, if_neg (by omega)]
            exact ⟨rfl, rfl⟩
  rw [if_neg d4]
  go_enter Tryd.func30, Tryd.ntmps30
  have e9 : 245 ≤ c ∨ c < 194 := by omega
  rcases e9 with e9 | e9
  · have f1 : 194 ≤ c := by omega
    have f2 : ¬ c < 224 := by omega
    have f3 : 224 ≤ c := by omega
    have f4 : ¬ c < 240 := by omega
    have f5 : 240 ≤ c := by omega
    have f6 : ¬ c < 245 := by omega
    go_wp2_with fail
    go_ret2
    exact ⟨rfl, rfl⟩
  · have f1 : ¬ 194 ≤ c := by omega
    have f3 : ¬ 224 ≤ c := by omega
    have f5 : ¬ 240 ≤ c := by omega
    go_wp2_with fail
    go_ret2
    exact ⟨rfl, rfl⟩

end Go.Proofs.YtmdeljacbekbpaaDoor

/- strings.SplitSeq at a stroke: the iterator's contract. -/
import Derived.Test.YthchkhfnhhpleaaDoorRangeBox
import Derived.Test.YthchkhfnhhpleaaDoorPathPure2
import Derived.Test.YthchkhfnhhpleaaDoorPathShelf
import Derived.Test.YthchkhfnhhpleaaDoorModBase
import Derived.Shelf.Abstract
import Derived.Shelf.RegionOpen
import Derived.WalkKit
import Derived.OwnWalkIn
import Derived.TacticsInMore
import Derived.LoopNIn
import Derived.LoopIn
import Derived.Lib.PathFns
import Derived.Lib.Hide
namespace Go.Proofs.YthchkhfnhhpleaaDoor
open Go.RowKit Go.Shelf
set_option maxRecDepth 100000
attribute [local go_sem] Oper.semAt_some

/-- Texts of at most 256 bytes. -/
abbrev Pc := { l : List UInt8 // l.length ≤ 256 }
def txt (l : List UInt8) : ByteArray := ⟨l.toArray⟩
theorem txt_toList (l : List UInt8) : (txt l).data.toList = l := rfl
theorem txt_of (s : ByteArray) : txt s.data.toList = s := by cases s; rfl

theorem idx_none : ∀ {l : List UInt8}, Lib.indexByte l 47 = -1 → parts l = [l]
  | [], _ => rfl
  | b :: l, h => by
    unfold Lib.indexByte at h
    split at h
    · cases h
    · rename_i hb
      have hb' : b ≠ 47 := by simpa using hb
      split at h
      · rename_i hi
        rw [parts, if_neg hb', idx_none (by simpa using hi)]
      · rename_i hi
        have := Lib.indexByte_ge l 47
        have hi' : Lib.indexByte l 47 ≠ -1 := by simpa using hi
        omega
theorem idx_some : ∀ {l : List UInt8} {i : Nat}, Lib.indexByte l 47 = i → i < l.length ∧ parts l = l.take i :: parts (l.drop (i + 1))
  | [], i, h => by unfold Lib.indexByte at h; omega
  | b :: l, i, h => by
    unfold Lib.indexByte at h
    split at h
    · rename_i hb
      obtain rfl : i = 0 := by omega
      have hb' : b = 47 := by simpa using hb
      exact ⟨by simp, by rw [parts, if_pos hb']; rfl⟩
    · rename_i hb
      have hb' : b ≠ 47 := by simpa using hb
      split at h
      · omega
      · have := Lib.indexByte_ge l 47
        obtain ⟨j, rfl⟩ : ∃ j, i = j + 1 := ⟨i - 1, by
          rename_i hi
          have hi' : Lib.indexByte l 47 ≠ -1 := by simpa using hi
          omega⟩
        obtain ⟨h1, h2⟩ := idx_some (l := l) (i := j) (by omega)
        refine ⟨by simp; omega, ?_⟩
        rw [parts, if_neg hb', h2]
        rfl

/-- Blocks that stay as they were. -/
def KeepK (l : List Nat) (W W' : World) : Prop := ∀ b ∈ l, W'.heap[b]? = W.heap[b]?
theorem KeepK.trans {l : List Nat} {A B C : World} (h : KeepK l A B) (k : KeepK l B C) : KeepK l A C := fun b hb => (k b hb).trans (h b hb)
theorem KeepK.putObj {l : List Nat} (W : World) (k : Nat) (o : Obj) (h : ∀ b ∈ l, b < k) : KeepK l W (W.putObj k o) := fun b hb => World.putObj_heap_other (by have := h b hb; omega)

/-- How long the text in a box is. -/
def boxLen (W : World) (b : Nat) : Nat := match W.cell? ⟨b, 0, none⟩ with | some (.string s) => s.size | _ => 0
theorem boxLen_eq {W : World} {b : Nat} {t : TypeId} {s : ByteArray} (h : Boxed W b t (.string s)) : boxLen W b = s.size := by unfold boxLen; rw [h.cell]

set_option maxHeartbeats 4000000 in
theorem split1_in (n : Nat) (hn : 3 ≤ n) (l B1 B2 B3 : Nat) (h12 : B1 ≠ B2) (h32 : B3 ≠ B2) (L : List UInt8) (hL : L.length ≤ 256) (J Jx : List Pc → World → Prop) (hJ : Bides B2 J)
    (hY : ∀ pre x W1, J pre W1 → pre.length < (parts L).length → YieldAt Fence.wide (n - 1) Tryd.prog l #[.string (txt x.1)] W1 fun e W' =>
      (e = .returned (.bool true) ∧ J (pre ++ [x]) W' ∧ KeepK [B1, B2, B3] W1 W') ∨ (e = .returned (.bool false) ∧ Jx (pre ++ [x]) W'))
    (W : World) (h1 : Boxed W B1 9 (.string ⟨#[47]⟩)) (h2 : Boxed W B2 9 (.string (txt L))) (h3 : Boxed W B3 3 (.int .i64 0)) (h0 : J [] W) :
    CallsIn Fence.wide n Tryd.prog 45 #[.func (.yield l) #[] #[], .pointer (some ⟨B1, 0, none⟩), .pointer (some ⟨B2, 0, none⟩), .pointer (some ⟨B3, 0, none⟩)] W fun e W' => (∃ v, e = .returned v) ∧
      ((∃ xs : List Pc, xs.map (·.1) = parts L ∧ J xs W') ∨ (∃ pre : List Pc, pre.map (·.1) <+: parts L ∧ Jx pre W')) := by
  have hD1 : 1 ≤ n - 1 := by omega
  have hD0 : 1 ≤ n := by omega
  refine callsIn_of_wp Tryd.func45 rfl trivial ?_ rfl
  simp only [Tryd.ntmps45, List.size_toArray, List.length_cons, List.length_nil, Nat.reduceAdd, Nat.reduceSub, Array.replicate_succ, Array.replicate_zero, List.push_toArray, List.append_toArray, List.nil_append, List.cons_append]
  have c1 := h1.cell
  gi_wp2
  gi_loopw [] (fun wr => ∃ (pre : List Pc) (r : List UInt8), r.length ≤ 256 ∧ pre.map (·.1) ++ parts r = parts L ∧ J pre wr ∧ Boxed wr B1 9 (.string ⟨#[47]⟩) ∧ Boxed wr B2 9 (.string (txt r)) ∧ Boxed wr B3 3 (.int .i64 0)) (fun wr => boxLen wr B2)
  case atStart => exact ⟨[], L, hL, rfl, h0, h1, h2, h3⟩
  case round =>
    obtain ⟨pre, r, hr, hp, hj, b1, b2, b3⟩ := hrel
    have c1 := b1.cell
    have c2 := b2.cell
    have c3 := b3.cell
    have hsz : (txt r).size = r.length := by show r.toArray.size = _; simp
    have hix := fun w' => Tryd.strings_Index_one (txt r) 47 w'
    rw [txt_toList] at hix
    by_cases hi : Lib.indexByte r 47 = -1
    · have hpr := idx_none hi
      rw [hpr] at hp
      rw [hi] at hix
      obtain ⟨fn, tmps, assign, body, hy, hR⟩ := hY pre ⟨r, hr⟩ wr hj (by rw [← hp]; simp)
      have HIX := Lib.hid hix
      have HP := Lib.hid hp
      clear hix hp hpr hi hY
      gi_wp2_with (refine ⟨trivial, ?_⟩; gi_at_call 47; refine (callsIn_wide.2 (HIX.out _)).mono ?_; rintro e w' ⟨rfl, rfl⟩)
      refine hR.mono ?_
      rintro e W3 (⟨rfl, hJ3, hk3⟩ | ⟨rfl, hJx3⟩)
      · gi_wp2
        go_end0
        exact ⟨⟨_, rfl⟩, .inl ⟨pre ++ [⟨r, hr⟩], by rw [List.map_append]; exact HP.out, hJ3⟩⟩
      · gi_wp2
        go_end0
        exact ⟨⟨_, rfl⟩, .inr ⟨pre ++ [⟨r, hr⟩], by rw [List.map_append]; exact HP.out ▸ List.prefix_refl _, hJx3⟩⟩
    · obtain ⟨i, hii⟩ : ∃ i : Nat, Lib.indexByte r 47 = i := ⟨(Lib.indexByte r 47).toNat, by have := Lib.indexByte_ge r 47; omega⟩
      obtain ⟨hlt, hpr⟩ := idx_some hii
      rw [hpr] at hp
      rw [hii] at hix
      obtain ⟨fn, tmps, assign, body, hy, hR⟩ := hY pre ⟨r.take i, by simp; omega⟩ wr hj (by rw [← hp]; simp)
      have hx1 : (txt r).extract 0 i = txt (r.take i) := by rw [Lib.extract_upto]; rfl
      have hx2 : (txt r).extract (i + 1) r.length = txt (r.drop (i + 1)) := by rw [← hsz, Lib.extract_from]; rfl
      have HIX := Lib.hid hix
      have HP := Lib.hid hp
      clear hix hp hpr hi hii hY
      gi_wp2_with (refine ⟨trivial, ?_⟩; gi_at_call 47; refine (callsIn_wide.2 (HIX.out _)).mono ?_; rintro e w' ⟨rfl, rfl⟩)
      refine hR.mono ?_
      rintro e W3 (⟨rfl, hJ3, hk3⟩ | ⟨rfl, hJx3⟩)
      · have b13 : Boxed W3 B1 9 (.string ⟨#[47]⟩) := (hk3 B1 (by simp)).trans b1
        have b23 : Boxed W3 B2 9 (.string (txt r)) := (hk3 B2 (by simp)).trans b2
        have b33 : Boxed W3 B3 3 (.int .i64 0) := (hk3 B3 (by simp)).trans b3
        have c13 := b13.cell
        have c23 := b23.cell
        have f23 := b23.frozen
        gi_wp2
        go_roundw
        case rel => exact ⟨pre ++ [⟨r.take i, by simp; omega⟩], r.drop (i + 1), by simp; omega, by rw [List.map_append, List.append_assoc]; exact HP.out, hJ.box _ _ _ hJ3, b13.other h12 _, b23.set _, b33.other h32 _⟩
        case measure => rw [boxLen_eq (b23.set _), boxLen_eq b2, hsz]; show (r.drop (i + 1)).toArray.size < _; simp; omega
      · gi_wp2
        refine bodyPost_ret (results_none rfl _ _ _) rfl ?_
        exact ⟨⟨_, rfl⟩, .inr ⟨pre ++ [⟨r.take i, by simp; omega⟩], by rw [List.map_append, ← HP.out]; exact ⟨parts (r.drop (i + 1)), by simp⟩, hJx3⟩⟩

theorem split_stops (n : Nat) (hn : 3 ≤ n) (B1 B2 B3 : Nat) (h12 : B1 ≠ B2) (h32 : B3 ≠ B2) (L : List UInt8) (hL : L.length ≤ 256) (w : World)
    (h1 : Boxed w B1 9 (.string ⟨#[47]⟩)) (h2 : Boxed w B2 9 (.string (txt L))) (h3 : Boxed w B3 3 (.int .i64 0)) :
    SeqBox n Tryd.prog 45 #[.pointer (some ⟨B1, 0, none⟩), .pointer (some ⟨B2, 0, none⟩), .pointer (some ⟨B3, 0, none⟩)] (fun x : Pc => #[.string (txt x.1)]) B2 (KeepK [B1, B2, B3])
      (fun xs => xs.map (·.1) = parts L) (fun pre => pre.map (·.1) <+: parts L) (parts L).length w := fun l J Jx W hW hJ _ hY h0 =>
  split1_in n hn l B1 B2 B3 h12 h32 L hL J Jx hJ hY W ((hW.block B1 h1.lt).trans h1) ((hW.block B2 h2.lt).trans h2) ((hW.block B3 h3.lt).trans h3) h0
theorem splitSeq_any (s : ByteArray) (w : World) : Calls Tryd.prog 29 #[.string s, .string ⟨#[47]⟩] w fun e w' =>
    e = .returned (.func (.func 45) #[] #[.pointer (some ⟨w.heap.size + 1, 0, none⟩), .pointer (some ⟨w.heap.size, 0, none⟩), .pointer (some ⟨w.heap.size + 1 + 1, 0, none⟩)]) ∧
    ((w.alloc (.cells #[.string s] 9)).alloc (.cells #[.string ⟨#[47]⟩] 9)).alloc (.cells #[.int .i64 0] 3) = w' := by
  have h : ∀ w, Calls Tryd.prog 39 #[.string s, .string ⟨#[47]⟩, .int .i64 0] w fun e w' =>
      e = .returned (.func (.func 45) #[] #[.pointer (some ⟨w.heap.size + 1, 0, none⟩), .pointer (some ⟨w.heap.size, 0, none⟩), .pointer (some ⟨w.heap.size + 1 + 1, 0, none⟩)]) ∧
      ((w.alloc (.cells #[.string s] 9)).alloc (.cells #[.string ⟨#[47]⟩] 9)).alloc (.cells #[.int .i64 0] 3) = w' := by
    intro w
    go_enter Tryd.func39, Tryd.ntmps39
    go_wp2
    go_ret
    exact ⟨rfl, rfl⟩
  have H := Lib.hid h
  clear h
  go_enter Tryd.func29, Tryd.ntmps29
  go_wp2_with (go_at_call 39; refine (H.out _).mono ?_; rintro e w' ⟨rfl, rfl⟩)
  go_ret
  exact ⟨rfl, rfl⟩

end Go.Proofs.YthchkhfnhhpleaaDoor

/- path.Parse. -/
import Derived.Test.YthchkhfnhhpleaaDoorPathSplit
import Derived.Test.YthchkhfnhhpleaaDoorPathName2
import Derived.Maps.AppendAt
import Derived.RangeFuncBox
import Derived.RegionTactic
import Derived.ChangeAlike
namespace Go.Proofs.YthchkhfnhhpleaaDoor
open Go.RowKit Go.Shelf
set_option maxRecDepth 100000
attribute [local go_sem] Oper.semAt_some

theorem Tryd.infoStr : (Tryd.prog.info? 9).map (fun i => (i.zero, i.size, i.bytes)) = some (some (.string ⟨#[]⟩), 1, 16) := by kernel_rfl

theorem hasPrefix_one (l : List UInt8) : Lib.hasPrefix l [47] = match l with | [] => false | c :: _ => (47 : UInt8) == c := by
  cases l with
  | nil => rfl
  | cons c l => simp [Lib.hasPrefix, List.isPrefixOf]

/-- What path.Parse answers. -/
def ParsePost (L : List UInt8) (w : World) (e : Ending) (w' : World) : Prop :=
  ∃ v, e = .returned (.tuple #[v, .int .i64 ((parseR L).2.1 : Int), .int .i64 ((parseR L).2.2 : Int)]) ∧ Below w.heap.size w w' ∧
    w'.ownsRow w.heap.size 9 1 v (parseR L).1.length ((parseR L).1.map (fun l => Value.string (txt l)))

theorem parse_done {L : List UInt8} {w w' : World} {x y : Nat} (h : parseR L = ([], x, y)) (hb : Below w.heap.size w w') : ParsePost L w (.returned (.tuple #[.slice none 0 0, .int .i64 x, .int .i64 y])) w' := by
  unfold ParsePost
  rw [h]
  exact ⟨_, rfl, hb, World.ownsRow_nil _ _ _ _⟩

set_option maxHeartbeats 4000000 in
theorem parse_long (L : List UInt8) (w : World) (hs : L.length ≤ 140737488355328) (hk : 256 < L.length) :
    Calls Tryd.prog 14 #[.string (txt L)] w (ParsePost L w) := by
  have hsz : (txt L).size = L.length := by show L.toArray.size = _; simp
  have hR : parseR L = ([], 0, 2) := by unfold parseR; rw [if_pos hk]
  have d1 : decide ((L.length : Int) > 256) = true := decide_eq_true (by omega)
  have hb : Below w.heap.size w (((w.alloc (.cells #[.slice none 0 0] 24)).alloc (.cells #[.int .i64 0] 3)).alloc (.cells #[.int .i64 2] 25)) := (((Below.refl _ w).alloc (Nat.le_refl _) _).alloc (by simp) _).alloc (by simp; omega) _
  have HB := Lib.hid hb
  have HR := Lib.hid hR
  clear hb hR
  go_enter Tryd.func14, Tryd.ntmps14
  go_wp2
  exact bodyPost_ret (v := .tuple #[.slice none 0 0, .int .i64 0, .int .i64 2]) (by simp [results, Tryd.results14, go_sem]) rfl (parse_done HR.out HB.out)

set_option maxHeartbeats 4000000 in
theorem parse_other (L : List UInt8) (w : World) (hk : L.length ≤ 256) (hp : Lib.hasPrefix L [47] = false) (hR : parseR L = ([], 0, 90)) :
    Calls Tryd.prog 14 #[.string (txt L)] w (ParsePost L w) := by
  have hsz : (txt L).size = L.length := by show L.toArray.size = _; simp
  have d1 : decide ((L.length : Int) > 256) = false := decide_eq_false (by omega)
  have hpf := fun w' => Tryd.strings_HasPrefix (txt L) ⟨#[47]⟩ w'
  rw [txt_toList, show (⟨#[47]⟩ : ByteArray).data.toList = [47] from rfl, hp] at hpf
  have HPF := Lib.hid hpf
  have hb : Below w.heap.size w (((w.alloc (.cells #[.slice none 0 0] 24)).alloc (.cells #[.int .i64 0] 3)).alloc (.cells #[.int .i64 90] 25)) := (((Below.refl _ w).alloc (Nat.le_refl _) _).alloc (by simp) _).alloc (by simp; omega) _
  have HB := Lib.hid hb
  have HR := Lib.hid hR
  clear hb hR hpf hp
  go_enter Tryd.func14, Tryd.ntmps14
  go_wp2_with (go_at_call 28; refine (HPF.out _).mono ?_; rintro e w' ⟨rfl, rfl⟩)
  exact bodyPost_ret (v := .tuple #[.slice none 0 0, .int .i64 0, .int .i64 90]) (by simp [results, Tryd.results14, go_sem]) rfl (parse_done HR.out HB.out)

set_option maxHeartbeats 4000000 in
theorem parse_root (w : World) : Calls Tryd.prog 14 #[.string (txt [47])] w (ParsePost [47] w) := by
  have hpf := fun w' => Tryd.strings_HasPrefix ⟨#[47]⟩ ⟨#[47]⟩ w'
  rw [show (⟨#[47]⟩ : ByteArray).data.toList = [47] from rfl, show Lib.hasPrefix [47] [47] = true from rfl] at hpf
  show Calls Tryd.prog 14 #[.string ⟨#[47]⟩] w (ParsePost [47] w)
  have HPF := Lib.hid hpf
  have hb : Below w.heap.size w (((w.alloc (.cells #[.slice none 0 0] 24)).alloc (.cells #[.int .i64 0] 3)).alloc (.cells #[.int .i64 0] 25)) := (((Below.refl _ w).alloc (Nat.le_refl _) _).alloc (by simp) _).alloc (by simp; omega) _
  have HB := Lib.hid hb
  clear hb hpf
  go_enter Tryd.func14, Tryd.ntmps14
  go_wp2_with (go_at_call 28; refine (HPF.out _).mono ?_; rintro e w' ⟨rfl, rfl⟩)
  exact bodyPost_ret (v := .tuple #[.slice none 0 0, .int .i64 0, .int .i64 0]) (by simp [results, Tryd.results14, go_sem]) rfl (parse_done rfl HB.out)

end Go.Proofs.YthchkhfnhhpleaaDoor

/- cons.pipe.tell. -/
import Derived.Test.YtmdeljacbekbpaaDoorConsMem
import Derived.Deep.RegionHeld3
import Derived.Outline
namespace Go.Proofs.YtmdeljacbekbpaaDoor
open Go.RowKit
set_option maxRecDepth 100000

def twoB (n : Int) : List Int := [n % 256, n / 256]
theorem twoB_range {n : Int} (h : 0 ≤ n ∧ n ≤ 65535) : ∀ x ∈ twoB n, 0 ≤ x ∧ x ≤ 255 := by
  intro x hx
  simp only [twoB, List.mem_cons, List.not_mem_nil, or_false] at hx
  rcases hx with rfl | rfl <;> omega

set_option maxHeartbeats 4000000 in
/-- tell: the count is laid at the place. -/
theorem ptell {b o : Nat} {own mv mfn : Int} {v : Option Addr} (w : World) (R : World → Prop) (h3 : w.cell? ⟨b, o + 3, none⟩ = some (.int .i64 own)) (h4 : w.cell? ⟨b, o + 4, none⟩ = some (.int .u16 mv)) (hm : 0 ≤ mv ∧ mv ≤ 65535)
    (hW : ∀ w', Mod No w w' → ∀ g, w'.heap[g]? = some (.cells ((twoB mv).map (Value.int .u8)).toArray 5 (0, 0)) → Calls Tryd.prog 41 #[.pointer v, .int .i64 mfn, .int .i64 own, .slice (some ⟨g, 0, none⟩) 2 2] w' fun e w2 => (∃ x, e = .returned x) ∧ R w2 ∧ w2.cell? ⟨b, o + 3, none⟩ = some (.int .i64 own) ∧ w2.cell? ⟨b, o + 4, none⟩ = some (.int .u16 mv)) :
    Calls Tryd.prog 43 #[.pointer (some ⟨b, o, none⟩), .pointer v, .int .i64 mfn] w fun e w' => e = .returned (.tuple #[]) ∧ R w' := by
  have HW := Lib.hid hW
  have HB : Hid (b < w.heap.size) := World.block_lt_of_cell? w _ h3
  have hw1 : IntKind.u8.wrap mv = mv % 256 := rfl
  have hw2 : IntKind.u8.wrap (mv / 256) = mv / 256 := by show (mv / 256) % 256 = mv / 256; omega
  have hS1 : (fun w' : World => w'.cell? ⟨b, o + 3, none⟩ = some (.int .i64 own) ∧ w'.cell? ⟨b, o + 4, none⟩ = some (.int .u16 mv)) w := ⟨h3, h4⟩
  clear hW h3 h4
  go_enter Tryd.func43, Tryd.ntmps43
  have HROW : Hid ((w.alloc (.cells #[.int .u8 (mv % 256), .int .u8 (mv / 256)] 5)).drew.heap[w.heap.size]? = some (.cells ((twoB mv).map (Value.int .u8)).toArray 5 (0, 0))) := heap_alloc_new w _
  have HMD : Hid (Mod No w (w.alloc (.cells #[.int .u8 (mv % 256), .int .u8 (mv / 256)] 5)).drew) := ((Mod.refl No w).alloc _).drew
  go_region_held3 (fun w' : World => w'.cell? ⟨b, o + 3, none⟩ = some (.int .i64 own) ∧ w'.cell? ⟨b, o + 4, none⟩ = some (.int .u16 mv)) (first | exact hS1 | assumption | go_keep) ((go_at_call 41; refine (HW.out _ HMD.out _ HROW.out).mono ?_; rintro e w2 ⟨⟨x, rfl⟩, hR, hS2⟩; have HR := Lib.hid hR; clear hR))
  go_wp2
  go_end0
  exact ⟨rfl, HR.out⟩

end Go.Proofs.YtmdeljacbekbpaaDoor

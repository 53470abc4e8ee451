/- core: what every operator does, plainly; the code does it. (Printed by wip/gen_any.py.) -/
import Derived.Test.YtlbebneblmgdcaaDoorCoreMem
import Derived.Test.YtlbebneblmgdcaaDoorCoreDoB
import Derived.Test.YtlbebneblmgdcaaDoorCoreDoD
import Derived.Test.YtlbebneblmgdcaaDoorCoreDoD2
import Derived.Test.YtlbebneblmgdcaaDoorCoreDoE
import Derived.Test.YtlbebneblmgdcaaDoorCoreDoE2
import Derived.Test.YtlbebneblmgdcaaDoorCoreOps
import Derived.Test.YtlbebneblmgdcaaDoorCoreNames
namespace Go.Proofs.YtlbebneblmgdcaaDoor
open Go.RowKit
set_option maxRecDepth 100000

/-- Why a processor stopped. -/
structure Stp where
  k : Int
  c : Int
  a1 : Int
  a2 : Int
  a3 : Int
  a4 : Int
  a5 : Int
  y : Int
def Stp.L (s : Stp) : List Value := stopL s.k s.c s.a1 s.a2 s.a3 s.a4 s.a5 s.y
def goesS : Stp := ⟨0, 0, 0, 0, 0, 0, 0, 0⟩
def haltS : Stp := ⟨1, 0, 0, 0, 0, 0, 0, 0⟩
def faultS (e : Int) : Stp := ⟨3, 0, 0, 0, 0, 0, 0, e⟩

/-- How many registers an instruction names. -/
def namedR (o : Int) : Nat := if o = 0 ∨ o = 20 then 0 else if o ≤ 2 ∨ 17 ≤ o then 1 else if o = 3 ∨ 13 ≤ o then 2 else 3

def opR (o x y : Int) : Int :=
  if o = 4 then (x + y) % 4294967296 else if o = 5 then (x - y) % 4294967296 else if o = 6 then x * y % 4294967296
  else if o = 7 then bits .and .u32 x y else if o = 8 then bits .or .u32 x y else if o = 9 then bits .xor .u32 x y
  else if o = 10 then x * 2 ^ (y % 32).toNat % 4294967296 else if o = 11 then x / 2 ^ (y % 32).toNat
  else if x < y then 1 else 0

/-- What an instruction leaves: registers, the place, the stop, the frames. -/
structure Out where
  R : List Int
  pc : Int
  s : Stp
  S : List Fr

def memAt (R : List Int) (b : Nat) (c : Int) : Int := (R.getD b 0 + c) % 1048576
def loadO (S : List Fr) (root : Int) (R : List Int) (pc : Int) (a b : Nat) (c n : Int) : Out :=
  if (fetchR S root (memAt R b c) n).1 = 0 then ⟨R.set a (numR (fetchR S root (memAt R b c) n).2), pc, goesS, S⟩ else ⟨R, pc, faultS (fetchR S root (memAt R b c) n).1, S⟩
def storeO (S : List Fr) (root : Int) (R : List Int) (pc : Int) (a b : Nat) (c : Int) (n : Nat) : Out :=
  ⟨R, pc, if (storeR S root (memAt R b c) ((fourR (R.getD a 0)).take n)).1 = 0 then goesS else faultS (storeR S root (memAt R b c) ((fourR (R.getD a 0)).take n)).1, (storeR S root (memAt R b c) ((fourR (R.getD a 0)).take n)).2⟩

def doR (S : List Fr) (root : Int) (R : List Int) (pc : Int) (o : Int) (a b c : Int) : Out :=
  if o = 0 then ⟨R, pc, haltS, S⟩
  else if o = 1 then ⟨R.set a.toNat (b + 256 * c), pc, goesS, S⟩
  else if o = 2 then ⟨R.set a.toNat (R.getD a.toNat 0 % 65536 + 65536 * (b + 256 * c)), pc, goesS, S⟩
  else if o = 3 then ⟨R.set a.toNat (R.getD b.toNat 0), pc, goesS, S⟩
  else if o ≤ 12 then ⟨R.set a.toNat (opR o (R.getD b.toNat 0) (R.getD c.toNat 0)), pc, goesS, S⟩
  else if o = 13 then loadO S root R pc a.toNat b.toNat c 4
  else if o = 14 then loadO S root R pc a.toNat b.toNat c 1
  else if o = 15 then storeO S root R pc a.toNat b.toNat c 4
  else if o = 16 then storeO S root R pc a.toNat b.toNat c 1
  else if o = 17 then ⟨R, R.getD a.toNat 0 % 1048576, goesS, S⟩
  else if o = 18 then ⟨R, if R.getD a.toNat 0 = 0 then (pc + 4 * farI (b + 256 * c)) % 1048576 else pc, goesS, S⟩
  else if o = 19 then ⟨R, if R.getD a.toNat 0 ≠ 0 then (pc + 4 * farI (b + 256 * c)) % 1048576 else pc, goesS, S⟩
  else ⟨R, pc, ⟨2, b + 256 * c, R.getD 1 0, R.getD 2 0, R.getD 3 0, R.getD 4 0, R.getD 5 0, 0⟩, S⟩

theorem loadO_eq (S : List Fr) (root : Int) (R : List Int) (pc : Int) (a b : Nat) (c n : Int) : (loadO S root R pc a b c n).R = loadRegs S root R a b c n ∧ (loadO S root R pc a b c n).pc = pc ∧ (loadO S root R pc a b c n).s.L = loadStop S root R b c n ∧ (loadO S root R pc a b c n).S = S := by
  unfold loadO loadRegs loadStop memAt
  split <;> exact ⟨rfl, rfl, rfl, rfl⟩
theorem storeO_eq (S : List Fr) (root : Int) (R : List Int) (pc : Int) (a b : Nat) (c : Int) (n : Nat) : (storeO S root R pc a b c n).s.L = putStop S root R a b c n := by
  unfold storeO putStop memAt
  split <;> rfl

/-- Which registers an instruction may name. -/
def regsOk (o a b c : Int) : Prop := (1 ≤ namedR o → a ≤ 7) ∧ (2 ≤ namedR o → b ≤ 7) ∧ (3 ≤ namedR o → c ≤ 7)

theorem DoS.of {w : World} {P B F : Nat} {S : List Fr} {R' : List Int} {pc' : Int} {root : Int} {st' : List Value} {e : Ending} {w' : World} (hm : PhM w B F S) (hPB : P ≠ B) (hPF : P ≠ F) (h : DoP w P R' pc' (.pointer (some ⟨B, 0, none⟩)) root st' e w') : DoS w P B F R' pc' root st' S e w' :=
  ⟨h.1, h.2.1, hm.kept h.2.2 (fun q => hPB q.symm) (fun q => hPF q.symm), h.2.2.mono (fun _ _ q => .inl q)⟩

theorem do_any {B F : Nat} {S : List Fr} (P : Nat) (o a b c : Int) (R : List Int) (pc : Int) (root : Int) (w : World) (hm : PhM w B F S) (h : CpuAt w P R pc (.pointer (some ⟨B, 0, none⟩)) root (stopL 0 0 0 0 0 0 0 0)) (hR : ∀ x ∈ R, 0 ≤ x ∧ x ≤ 4294967295)
    (ho : 0 ≤ o ∧ o ≤ 20) (ha : 0 ≤ a ∧ a ≤ 255) (hb : 0 ≤ b ∧ b ≤ 255) (hc : 0 ≤ c ∧ c ≤ 255) (hp : 0 ≤ pc ∧ pc < 1048576) (hr : regsOk o a b c) (hPB : P ≠ B) (hPF : P ≠ F) :
    Calls Tryd.prog (opsFn.getD o.toNat 0) #[.pointer (some ⟨P, 0, none⟩), .agg #[.int .u8 o, .int .u8 a, .int .u8 b, .int .u8 c]] w (DoS w P B F (doR S root R pc o a b c).R (doR S root R pc o a b c).pc root (doR S root R pc o a b c).s.L (doR S root R pc o a b c).S) := by
  obtain ⟨a, rfl⟩ : ∃ n : Nat, a = n := ⟨a.toNat, by omega⟩
  obtain ⟨b, rfl⟩ : ∃ n : Nat, b = n := ⟨b.toNat, by omega⟩
  obtain ⟨c, rfl⟩ : ∃ n : Nat, c = n := ⟨c.toNat, by omega⟩
  obtain ⟨r1, r2, r3⟩ := hr
  have hcases : o = 0 ∨ o = 1 ∨ o = 2 ∨ o = 3 ∨ o = 4 ∨ o = 5 ∨ o = 6 ∨ o = 7 ∨ o = 8 ∨ o = 9 ∨ o = 10 ∨ o = 11 ∨ o = 12 ∨ o = 13 ∨ o = 14 ∨ o = 15 ∨ o = 16 ∨ o = 17 ∨ o = 18 ∨ o = 19 ∨ o = 20 := by omega
  rcases hcases with rfl | rfl | rfl | rfl | rfl | rfl | rfl | rfl | rfl | rfl | rfl | rfl | rfl | rfl | rfl | rfl | rfl | rfl | rfl | rfl | rfl
  · -- halt
    exact (do_halt P 0 a b c R pc _ root _ w h rfl).mono (fun e w' q => DoS.of hm hPB hPF q)
  · -- set
    have ha' : a < 8 := by have := r1 (by decide); omega
    exact (do_set P a b c 1 R pc _ root _ w h ha' hb hc).mono (fun e w' q => DoS.of hm hPB hPF q)
  · -- high
    have ha' : a < 8 := by have := r1 (by decide); omega
    exact (do_high P a b c 2 R pc _ root _ w h hR ha' hb hc).mono (fun e w' q => DoS.of hm hPB hPF q)
  · -- move
    have ha' : a < 8 := by have := r1 (by decide); omega
    have hb' : b < 8 := by have := r2 (by decide); omega
    exact (do_move P a b c 3 R pc _ root _ w h ha' hb').mono (fun e w' q => DoS.of hm hPB hPF q)
  · -- add
    have ha' : a < 8 := by have := r1 (by decide); omega
    have hb' : b < 8 := by have := r2 (by decide); omega
    have hc' : c < 8 := by have := r3 (by decide); omega
    exact (do_add P a b c 4 R pc _ root _ w h hR ha' hb' hc').mono (fun e w' q => DoS.of hm hPB hPF q)
  · -- sub
    have ha' : a < 8 := by have := r1 (by decide); omega
    have hb' : b < 8 := by have := r2 (by decide); omega
    have hc' : c < 8 := by have := r3 (by decide); omega
    exact (do_sub P a b c 5 R pc _ root _ w h hR ha' hb' hc').mono (fun e w' q => DoS.of hm hPB hPF q)
  · -- mul
    have ha' : a < 8 := by have := r1 (by decide); omega
    have hb' : b < 8 := by have := r2 (by decide); omega
    have hc' : c < 8 := by have := r3 (by decide); omega
    exact (do_mul P a b c 6 R pc _ root _ w h hR ha' hb' hc').mono (fun e w' q => DoS.of hm hPB hPF q)
  · -- and
    have ha' : a < 8 := by have := r1 (by decide); omega
    have hb' : b < 8 := by have := r2 (by decide); omega
    have hc' : c < 8 := by have := r3 (by decide); omega
    exact (do_and P a b c 7 R pc _ root _ w h hR ha' hb' hc').mono (fun e w' q => DoS.of hm hPB hPF q)
  · -- or
    have ha' : a < 8 := by have := r1 (by decide); omega
    have hb' : b < 8 := by have := r2 (by decide); omega
    have hc' : c < 8 := by have := r3 (by decide); omega
    exact (do_or P a b c 8 R pc _ root _ w h hR ha' hb' hc').mono (fun e w' q => DoS.of hm hPB hPF q)
  · -- xor
    have ha' : a < 8 := by have := r1 (by decide); omega
    have hb' : b < 8 := by have := r2 (by decide); omega
    have hc' : c < 8 := by have := r3 (by decide); omega
    exact (do_xor P a b c 9 R pc _ root _ w h hR ha' hb' hc').mono (fun e w' q => DoS.of hm hPB hPF q)
  · -- up
    have ha' : a < 8 := by have := r1 (by decide); omega
    have hb' : b < 8 := by have := r2 (by decide); omega
    have hc' : c < 8 := by have := r3 (by decide); omega
    exact (do_up P a b c 10 R pc _ root _ w h hR ha' hb' hc').mono (fun e w' q => DoS.of hm hPB hPF q)
  · -- down
    have ha' : a < 8 := by have := r1 (by decide); omega
    have hb' : b < 8 := by have := r2 (by decide); omega
    have hc' : c < 8 := by have := r3 (by decide); omega
    exact (do_down P a b c 11 R pc _ root _ w h hR ha' hb' hc').mono (fun e w' q => DoS.of hm hPB hPF q)
  · -- less
    have ha' : a < 8 := by have := r1 (by decide); omega
    have hb' : b < 8 := by have := r2 (by decide); omega
    have hc' : c < 8 := by have := r3 (by decide); omega
    exact (do_less P a b c 12 R pc _ root _ w h ha' hb' hc').mono (fun e w' q => DoS.of hm hPB hPF q)
  · -- word
    have ha' : a < 8 := by have := r1 (by decide); omega
    have hb' : b < 8 := by have := r2 (by decide); omega
    have e : doR S root R pc 13 a b c = loadO S root R pc a b c 4 := rfl
    obtain ⟨e1, e2, e3, e4⟩ := loadO_eq S root R pc a b c 4
    rw [e, e1, e2, e3, e4]
    exact (do_word P a b c 13 R pc root w hm h hR ha' hb').mono (fun e w' q => DoS.of hm hPB hPF q)
  · -- byte
    have ha' : a < 8 := by have := r1 (by decide); omega
    have hb' : b < 8 := by have := r2 (by decide); omega
    have e : doR S root R pc 14 a b c = loadO S root R pc a b c 1 := rfl
    obtain ⟨e1, e2, e3, e4⟩ := loadO_eq S root R pc a b c 1
    rw [e, e1, e2, e3, e4]
    exact (do_byte P a b c 14 R pc root w hm h hR ha' hb').mono (fun e w' q => DoS.of hm hPB hPF q)
  · -- words
    have ha' : a < 8 := by have := r1 (by decide); omega
    have hb' : b < 8 := by have := r2 (by decide); omega
    have e : doR S root R pc 15 a b c = storeO S root R pc a b c 4 := rfl
    rw [e, storeO_eq]
    exact (do_words P a b c 15 R pc root w hm h hR ha' hb' hPB hPF)
  · -- put
    have ha' : a < 8 := by have := r1 (by decide); omega
    have hb' : b < 8 := by have := r2 (by decide); omega
    have e : doR S root R pc 16 a b c = storeO S root R pc a b c 1 := rfl
    rw [e, storeO_eq]
    exact (do_put P a b c 16 R pc root w hm h hR ha' hb' hPB hPF)
  · -- jump
    have ha' : a < 8 := by have := r1 (by decide); omega
    exact (do_jump P a b c 17 R pc _ root _ w h hR ha').mono (fun e w' q => DoS.of hm hPB hPF q)
  · -- zero
    have ha' : a < 8 := by have := r1 (by decide); omega
    exact (do_zero P a b c 18 R pc _ root _ w h ha' hb hc hp).mono (fun e w' q => DoS.of hm hPB hPF q)
  · -- some
    have ha' : a < 8 := by have := r1 (by decide); omega
    exact (do_some P a b c 19 R pc _ root _ w h ha' hb hc hp).mono (fun e w' q => DoS.of hm hPB hPF q)
  · -- call
    exact (do_call P a b c 20 R pc _ root _ w h rfl hb hc).mono (fun e w' q => DoS.of hm hPB hPF q)

theorem shape_any (o a b c : Int) (w : World) (ho : 0 ≤ o ∧ o ≤ 20) : Calls Tryd.prog 19 #[.agg #[.int .u8 o, .int .u8 a, .int .u8 b, .int .u8 c]] w fun e w' => (∃ n k, e = .returned (.agg #[.int .i64 (namedR o), .int .i64 n, .bool k])) ∧ Mod No w w' := by
  have hcases : o = 0 ∨ o = 1 ∨ o = 2 ∨ o = 3 ∨ o = 4 ∨ o = 5 ∨ o = 6 ∨ o = 7 ∨ o = 8 ∨ o = 9 ∨ o = 10 ∨ o = 11 ∨ o = 12 ∨ o = 13 ∨ o = 14 ∨ o = 15 ∨ o = 16 ∨ o = 17 ∨ o = 18 ∨ o = 19 ∨ o = 20 := by omega
  rcases hcases with rfl | rfl | rfl | rfl | rfl | rfl | rfl | rfl | rfl | rfl | rfl | rfl | rfl | rfl | rfl | rfl | rfl | rfl | rfl | rfl | rfl
  · exact (shape_0 a b c w).mono (fun e w' q => ⟨⟨_, _, q.1⟩, q.2⟩)
  · exact (shape_1 a b c w).mono (fun e w' q => ⟨⟨_, _, q.1⟩, q.2⟩)
  · exact (shape_2 a b c w).mono (fun e w' q => ⟨⟨_, _, q.1⟩, q.2⟩)
  · exact (shape_3 a b c w).mono (fun e w' q => ⟨⟨_, _, q.1⟩, q.2⟩)
  · exact (shape_4 a b c w).mono (fun e w' q => ⟨⟨_, _, q.1⟩, q.2⟩)
  · exact (shape_5 a b c w).mono (fun e w' q => ⟨⟨_, _, q.1⟩, q.2⟩)
  · exact (shape_6 a b c w).mono (fun e w' q => ⟨⟨_, _, q.1⟩, q.2⟩)
  · exact (shape_7 a b c w).mono (fun e w' q => ⟨⟨_, _, q.1⟩, q.2⟩)
  · exact (shape_8 a b c w).mono (fun e w' q => ⟨⟨_, _, q.1⟩, q.2⟩)
  · exact (shape_9 a b c w).mono (fun e w' q => ⟨⟨_, _, q.1⟩, q.2⟩)
  · exact (shape_10 a b c w).mono (fun e w' q => ⟨⟨_, _, q.1⟩, q.2⟩)
  · exact (shape_11 a b c w).mono (fun e w' q => ⟨⟨_, _, q.1⟩, q.2⟩)
  · exact (shape_12 a b c w).mono (fun e w' q => ⟨⟨_, _, q.1⟩, q.2⟩)
  · exact (shape_13 a b c w).mono (fun e w' q => ⟨⟨_, _, q.1⟩, q.2⟩)
  · exact (shape_14 a b c w).mono (fun e w' q => ⟨⟨_, _, q.1⟩, q.2⟩)
  · exact (shape_15 a b c w).mono (fun e w' q => ⟨⟨_, _, q.1⟩, q.2⟩)
  · exact (shape_16 a b c w).mono (fun e w' q => ⟨⟨_, _, q.1⟩, q.2⟩)
  · exact (shape_17 a b c w).mono (fun e w' q => ⟨⟨_, _, q.1⟩, q.2⟩)
  · exact (shape_18 a b c w).mono (fun e w' q => ⟨⟨_, _, q.1⟩, q.2⟩)
  · exact (shape_19 a b c w).mono (fun e w' q => ⟨⟨_, _, q.1⟩, q.2⟩)
  · exact (shape_20 a b c w).mono (fun e w' q => ⟨⟨_, _, q.1⟩, q.2⟩)

end Go.Proofs.YtlbebneblmgdcaaDoor

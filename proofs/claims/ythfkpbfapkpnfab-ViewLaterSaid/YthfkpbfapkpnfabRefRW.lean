/- tenementref01: In, Read, Write. -/
import Derived.Test.YthfkpbfapkpnfabRefFree
import Derived.Test.YthfkpbfapkpnfabPhysMore
import Derived.OwnWalk
import Derived.IntWalk
namespace Go.Proofs.Ythfkpbfapkpnfab
open Go.RowKit
set_option maxRecDepth 100000

theorem rin_in {K : RfK} {S : List Fr} (i off n : Int) (w : World) (h : RfM w K S) (hp : InP S i off n) :
    Calls Try.prog 100 #[.pointer (some ⟨K.R, 0, none⟩), .int .i64 i, .int .i64 off, .int .i64 n] w fun e w' => e = .returned (.bool true) ∧ w = w' := by
  obtain ⟨⟨hi0, hi1⟩, ho, hn, hs⟩ := hp
  have d1 : decide (0 ≤ off) = true := decide_eq_true (by omega)
  have d2 : decide (0 ≤ n) = true := decide_eq_true (by omega)
  have d3 : decide (off ≤ 256) = true := decide_eq_true (by omega)
  have d4 : decide (n ≤ 256 - off) = true := decide_eq_true (by omega)
  go_enter Try.func100, Try.ntmps100
  go_wp2_with (go_at_call 98; refine (ris_in i _ h hi0 hi1).mono ?_; rintro e w' ⟨rfl, rfl⟩)
  go_ret
  exact ⟨rfl, rfl⟩

theorem rin_out {K : RfK} {S : List Fr} (i off n : Int) (w : World) (h : RfM w K S) (hp : ¬ InP S i off n) :
    Calls Try.prog 100 #[.pointer (some ⟨K.R, 0, none⟩), .int .i64 i, .int .i64 off, .int .i64 n] w fun e w' => e = .returned (.bool false) ∧ w = w' := by
  by_cases hi : i < 0 ∨ (S.length : Int) ≤ i
  · go_enter Try.func100, Try.ntmps100
    go_wp2_with (go_at_call 98; refine (ris_out i _ h hi).mono ?_; rintro e w' ⟨rfl, rfl⟩)
    go_ret
    exact ⟨rfl, rfl⟩
  have hi0 : 0 ≤ i := by omega
  have hi1 : i < S.length := by omega
  by_cases c1 : 0 ≤ off
  rotate_left
  · have d1 : decide (0 ≤ off) = false := decide_eq_false c1
    go_enter Try.func100, Try.ntmps100
    go_wp2_with (go_at_call 98; refine (ris_in i _ h hi0 hi1).mono ?_; rintro e w' ⟨rfl, rfl⟩)
    go_ret
    exact ⟨rfl, rfl⟩
  have d1 : decide (0 ≤ off) = true := decide_eq_true c1
  by_cases c2 : 0 ≤ n
  rotate_left
  · have d2 : decide (0 ≤ n) = false := decide_eq_false c2
    go_enter Try.func100, Try.ntmps100
    go_wp2_with (go_at_call 98; refine (ris_in i _ h hi0 hi1).mono ?_; rintro e w' ⟨rfl, rfl⟩)
    go_ret
    exact ⟨rfl, rfl⟩
  have d2 : decide (0 ≤ n) = true := decide_eq_true c2
  by_cases c3 : off ≤ 256
  rotate_left
  · have d3 : decide (off ≤ 256) = false := decide_eq_false c3
    go_enter Try.func100, Try.ntmps100
    go_wp2_with (go_at_call 98; refine (ris_in i _ h hi0 hi1).mono ?_; rintro e w' ⟨rfl, rfl⟩)
    go_ret
    exact ⟨rfl, rfl⟩
  have d3 : decide (off ≤ 256) = true := decide_eq_true c3
  have d4 : decide (n ≤ 256 - off) = false := decide_eq_false (by unfold InP at hp; omega)
  go_enter Try.func100, Try.ntmps100
  go_wp2_with (go_at_call 98; refine (ris_in i _ h hi0 hi1).mono ?_; rintro e w' ⟨rfl, rfl⟩)
  go_ret
  exact ⟨rfl, rfl⟩

theorem rread_out {K : RfK} {S : List Fr} (i off n : Int) (w : World) (h : RfM w K S) (hp : ¬ InP S i off n) :
    Calls Try.prog 74 #[.pointer (some ⟨K.R, 0, none⟩), .int .i64 i, .int .i64 off, .int .i64 n] w fun e w' => e = .returned (.tuple #[.slice none 0 0, .int .i64 1]) ∧ w = w' := by
  go_enter Try.func74, Try.ntmps74
  go_wp2_with (go_at_call 100; refine (rin_out i off n _ h hp).mono ?_; rintro e w' ⟨rfl, rfl⟩)
  go_ret2
  exact ⟨rfl, rfl⟩

theorem rwrite_out {K : RfK} {S : List Fr} (i off : Int) (p : Option Addr) (n c : Nat) (w : World) (h : RfM w K S) (hp : ¬ InP S i off n) :
    Calls Try.prog 75 #[.pointer (some ⟨K.R, 0, none⟩), .int .i64 i, .int .i64 off, .slice p n c] w fun e w' => e = .returned (.int .i64 1) ∧ w = w' := by
  go_enter Try.func75, Try.ntmps75
  go_wp2_with (go_at_call 100; refine (rin_out i off n _ h hp).mono ?_; rintro e w' ⟨rfl, rfl⟩)
  go_ret
  exact ⟨rfl, rfl⟩

theorem rwrite_free {K : RfK} {S : List Fr} (i off : Int) (p : Option Addr) (n c : Nat) (f : Fr) (w : World) (h : RfM w K S) (hp : InP S i off n) (hf : S[i.toNat]? = some f) (ho : f.owner = -1) :
    Calls Try.prog 75 #[.pointer (some ⟨K.R, 0, none⟩), .int .i64 i, .int .i64 off, .slice p n c] w fun e w' => e = .returned (.int .i64 11) ∧ w = w' := by
  have hi := hp.1
  obtain ⟨cf, hcf, hF⟩ := h.cF
  have c0 := h.cH hf 0 (by omega)
  simp only [Nat.add_zero, Fr.head, List.getElem?_cons_zero] at c0
  rw [ho] at c0
  have hi0 := hi.1
  have hi1 := hi.2
  clear ho hi
  go_enter Try.func75, Try.ntmps75
  go_wp2_with (go_at_call 100; refine (rin_in i off n _ h hp).mono ?_; rintro e w' ⟨rfl, rfl⟩)
  go_ret
  exact ⟨rfl, rfl⟩

/-- One byte of a frame is stored. -/
theorem RfM.setB {w : World} {K : RfK} {S : List Fr} (h : RfM w K S) {i : Nat} {f : Fr} (hi : S[i]? = some f) {b c : Nat} (hb : K.bl[i]? = some (b, c)) (j : Nat) (hj : j < 256) (x : Int) (hx : 0 ≤ x ∧ x ≤ 255) :
    RfM (w.setCell ⟨b, j, none⟩ (.int .u8 x)) K (S.set i { f with bytes := f.bytes.set j x }) ∧ Mod K.inn w (w.setCell ⟨b, j, none⟩ (.int .u8 x)) := by
  obtain ⟨c0, d0, hc0, hd0, h1⟩ := h.head
  obtain ⟨r, h2⟩ := h.frow
  obtain ⟨q, h3⟩ := h.brow
  obtain ⟨h4, rb, hrb⟩ := h.rows i f (b, c) hi hb
  have hrb : w.heap[b]? = some (.cells (f.bytes.map (Value.int .u8) ++ rb).toArray 5 (0, 0)) := hrb
  have hlt := (List.getElem?_eq_some_iff.1 hi).1
  have hfo := h.ok f (List.mem_of_getElem? hi)
  have nR : K.R ≠ b := by intro e; rw [e, hrb] at h1; simp at h1
  have nG : K.G ≠ b := by intro e; rw [e, hrb] at h2; simp at h2
  have nH : K.H ≠ b := by intro e; rw [e, hrb] at h3; simp at h3
  refine ⟨⟨okS_set h.ok i ⟨by simpa using hfo.1, ?_⟩, by simpa using h.len, by simpa using h.bll, ⟨c0, d0, by simpa using hc0, by simpa using hd0, ?_⟩, ⟨r, ?_⟩, ⟨q, ?_⟩, ?_, h.nodup⟩, (Mod.refl _ w).setCell (p := ⟨b, j, none⟩) (fun _ => .inr (.inr (List.mem_map.2 ⟨(b, c), List.mem_of_getElem? hb, rfl⟩))) _⟩
  · intro y hy
    rcases List.mem_or_eq_of_mem_set hy with q | q
    · exact hfo.2 y q
    · rw [q]; exact hx
  · rw [heap_setCell_other _ _ _ _ nR, h1]; simp
  · rw [heap_setCell_other _ _ _ _ nG, h2]
    have e : ∀ (S : List Fr) (i : Nat), S[i]? = some f → headCells (S.set i { f with bytes := f.bytes.set j x }) = headCells S := by
      intro S
      induction S with
      | nil => intro i h; simp at h
      | cons g S ih =>
        intro i hg
        cases i with
        | zero => simp at hg; subst hg; rfl
        | succ i =>
          have := ih i (by simpa using hg)
          simp only [headCells, List.flatMap_cons, List.set_cons_succ] at this ⊢
          rw [this]
    rw [e S i hi]
  · rw [heap_setCell_other _ _ _ _ nH, h3]
  · intro i' f' p hi' hp
    by_cases e : i = i'
    · subst e
      rw [List.getElem?_set_self hlt] at hi'
      obtain rfl := Option.some.inj hi'
      rw [hb] at hp
      obtain rfl := Option.some.inj hp
      refine ⟨h4, rb, ?_⟩
      rw [row_set hrb, List.set_append_left _ _ (by simp [hfo.1]; exact hj)]
      simp [List.map_set]
    · rw [List.getElem?_set_ne e] at hi'
      obtain ⟨h4', r4, h5⟩ := h.rows i' f' p hi' hp
      refine ⟨h4', r4, ?_⟩
      rw [heap_setCell_other _ _ _ _ ?_, h5]
      intro ee
      have hnd := h.nodup
      have e1 : (K.bl.map Prod.fst)[i]? = some b := by simp [hb]
      have e2 : (K.bl.map Prod.fst)[i']? = some b := by simp [hp, ee]
      have l1 := (List.getElem?_eq_some_iff.1 e1).1
      have l2 := (List.getElem?_eq_some_iff.1 e2).1
      rw [List.getElem?_eq_getElem l1] at e1
      rw [List.getElem?_eq_getElem l2] at e2
      have e3 := (Option.some.inj e1).trans (Option.some.inj e2).symm
      have hpw := List.pairwise_iff_getElem.1 hnd
      rcases Nat.lt_or_gt_of_ne e with q | q
      · exact hpw i i' l1 l2 q e3
      · exact hpw i' i l2 l1 q e3.symm

theorem set_same {S : List Fr} {i : Nat} {f : Fr} (h : S[i]? = some f) : S.set i f = S := by
  obtain ⟨h1, rfl⟩ := List.getElem?_eq_some_iff.1 h
  exact List.set_getElem_self h1

theorem splice_step {l bs : List Int} {o k : Nat} {x : Int} (hl : o + bs.length ≤ l.length) (hx : bs[k]? = some x) : (splice l o (bs.take k)).set (o + k) x = splice l o (bs.take (k + 1)) := by
  have hk := (List.getElem?_eq_some_iff.1 hx).1
  have e : bs.take (k + 1) = bs.take k ++ [x] := by rw [List.take_add_one, hx]; rfl
  unfold splice
  rw [e]
  have h1 : (l.take o).length = o := by simp; omega
  have h2 : (bs.take k).length = k := by simp; omega
  rw [← List.append_assoc, List.set_append_right _ _ (by simp [h1, h2]), List.length_append, h1, h2, show o + k - (o + k) = 0 by omega]
  rw [List.length_append, h2, List.drop_eq_getElem_cons (show o + k < l.length by omega), List.set_cons_zero]
  simp [Nat.add_assoc]

set_option maxHeartbeats 1600000 in
theorem rwrite_in {K : RfK} {S : List Fr} (i off : Int) (p : Option Addr) (n c : Nat) (bs : List Int) (f : Fr) (w : World) (h : RfM w K S) (hl : bs.length = n) (hp : InP S i off n) (hf : S[i.toNat]? = some f) (ho : f.owner ≠ -1)
    (hr : ∀ x ∈ bs, 0 ≤ x ∧ x ≤ 255) (hs : 0 < n → ∃ b o, p = some ⟨b, o, none⟩ ∧ ¬ K.inn b ∧ n ≤ c ∧ ∀ j x, bs[j]? = some x → w.cell? ⟨b, o + j, none⟩ = some (.int .u8 x)) :
    Calls Try.prog 75 #[.pointer (some ⟨K.R, 0, none⟩), .int .i64 i, .int .i64 off, .slice p n c] w fun e w' =>
      e = .returned (.int .i64 0) ∧ Mod K.inn w w' ∧ RfM w' K (S.set i.toNat { f with bytes := splice f.bytes off.toNat bs }) := by
  have hp' := hp
  obtain ⟨⟨hi0, hi1⟩, hof, hn, hz⟩ := hp
  obtain ⟨o, rfl⟩ := Int.eq_ofNat_of_zero_le hof
  obtain ⟨cf, hcf, hF⟩ := h.cF
  have c0 := h.cH hf 0 (by omega)
  simp only [Nat.add_zero, Fr.head, List.getElem?_cons_zero] at c0
  have d0 : (f.owner == -1) = false := beq_eq_false_iff_ne.2 ho
  have hlt : i.toNat < S.length := by omega
  have hfo := h.ok f (List.mem_of_getElem? hf)
  have HS := Lib.hid hs
  have HRG := Lib.hid hr
  have HL := Lib.hid hl
  clear hs hr hl ho
  go_enter Try.func75, Try.ntmps75
  go_wp2_with (go_at_call 100; refine (rin_in i o n _ h hp').mono ?_; rintro e w' ⟨rfl, rfl⟩)
  go_loopw [9] (fun v wr => ∃ k : Nat, k ≤ n ∧ v = .int .i64 k ∧ Mod K.inn w wr ∧ RfM wr K (S.set i.toNat { f with bytes := splice f.bytes o (bs.take k) })) (fun v _ => n - (intOf v).toNat)
  case atStart =>
    refine ⟨0, Nat.zero_le _, rfl, Mod.refl _ _, ?_⟩
    have e : splice f.bytes o (bs.take 0) = f.bytes := by simp [splice]
    rw [e, show ({ f with bytes := f.bytes } : Fr) = f from rfl, set_same hf]
    exact h
  case round =>
    obtain ⟨k, hk, rfl, hm, hR⟩ := hrel
    by_cases hlt2 : k < n
    · obtain ⟨sb, so, rfl, hsb, hnc, hsc⟩ := HS.out (by omega)
      obtain ⟨x, hx⟩ : ∃ x, bs[k]? = some x := ⟨bs[k]'(by rw [HL.out]; exact hlt2), by rw [List.getElem?_eq_getElem]⟩
      have hx0 := hsc k x hx
      have hxw : wr.cell? ⟨sb, so + k, none⟩ = some (.int .u8 x) := by
        have := World.block_lt_of_cell? w _ hx0
        exact (World.cell?_of_block (w := w) (hm.block sb this hsb)).trans hx0
      obtain ⟨fk, hfk⟩ : ∃ fk : Fr, fk = { f with bytes := splice f.bytes o (bs.take k) } := ⟨_, rfl⟩
      rw [← hfk] at hR
      have hfg : (S.set i.toNat fk)[i.toNat]? = some fk := by simp [hlt]
      obtain ⟨d, hd, hB⟩ := hR.cB
      rw [List.length_set] at hd hB
      obtain ⟨rb, rc, hrc, hbl, hcR, hcx, hfz⟩ := hR.cR hfg
      have hok := (hR.ok fk (List.mem_of_getElem? hfg)).1
      have hcx' := hcx (o + k) fk.bytes[o + k] (by rw [List.getElem?_eq_getElem])
      generalize fk.bytes[o + k] = y at hcx'
      have hfz' := hfz (o + k)
      have hset := hR.setB hfg hbl (o + k) (by omega) x (HRG.out x (List.mem_of_getElem? hx))
      have hst : ({ fk with bytes := fk.bytes.set (o + k) x } : Fr) = { f with bytes := splice f.bytes o (bs.take (k + 1)) } := by
        rw [hfk]; simp only; rw [splice_step (by rw [hfo.1, HL.out]; omega) hx]
      rw [List.set_set, hst] at hset
      have HSET := Lib.hid hset; clear hset hst hfk hx hx0
      have b1 : (0 : Int) ≤ (o : Int) + k := by omega
      have b2 : (o : Int) + k < 256 := by omega
      have b3 : ((o : Int) + k).toNat = o + k := by omega
      have b4 : (k : Int) < n := by omega
      have b5 : (0 : Int) ≤ k := by omega
      go_wp2
      go_region
      go_wp2
      go_roundw
      case rel => exact ⟨k + 1, by omega, by go_num, (hm.trans HSET.out.2).drew, HSET.out.1.keptNo ((Mod.refl No _).drew)⟩
      case measure => simp [intOf]; omega
    · obtain rfl : k = n := by omega
      rw [List.take_of_length_le (by rw [HL.out]; exact Nat.le_refl _)] at hR
      go_wp2
      go_ret
      exact ⟨rfl, hm, hR⟩

end Go.Proofs.Ythfkpbfapkpnfab

/- The law on what can be read: it stays as it is. -/
import Derived.Test.YtmdeljacbekbpaaDoorLaw16Shows
import Derived.Deep.RegionHeld3
namespace Go.Proofs.YtmdeljacbekbpaaDoor
open Go.RowKit
set_option maxRecDepth 100000

/-- append of bytes, nil too, onto a row of the call's own; an arm inside a drawn region, the operation guarded or not. -/
theorem step_append_byt {ops : Array Oper} {o : Oper} {a : Act} {w : World} {K : Act → World → Prop} {Q : Exit → Act → World → Prop} {E : Prop}
    (hw : Region.wanted o (yielded ops a.tmps) = true) (s x : Operand) (hop : o.op = Op.call { callee := Callee.builtin Builtin.append, args := #[s, x], argTypes := #[22, 22] })
    (base : Nat) (v : Value) (xs : List Int) (hs : a.eval s = v) (hown : w.ownsRow base 5 1 v xs.length (xs.map (Value.int .u8)))
    (q : Option Addr) (bs : List Int) (c : Nat) (hx : a.eval x = .slice q bs.length c) (hb : Byt w q bs c) (hlen : xs.length + bs.length ≤ 140737488355328) (hbase : base ≤ w.heap.size)
    (hK : ∀ v' w', w'.ownsRow base 5 1 v' (xs ++ bs).length ((xs ++ bs).map (Value.int .u8)) → w.grownBy w' v.ownBlock → K (a.put o.dst v') w') :
    if Region.wanted o (yielded ops a.tmps) = true then Oper.wp Tryd.prog o a w K Q else E := by
  rw [if_pos hw]
  obtain ⟨u0, hu, hu0, hu1, hu2⟩ := info_parts Tryd.infoU8
  cases q with
  | none =>
    obtain ⟨rfl, rfl⟩ := hb.nil rfl
    have hrun := run_append_owned_none (P := Tryd.prog) (w := w) base 22 o.type 5 u0 1 Tryd.underlying22 hu v xs.length _ hown
    unfold Oper.wp
    have hx' : a.eval x = .slice none 0 0 := hx
    simp [execOp, hop, resolve, invoke, builtin, hs, hx', hrun, Result.andThen]
    exact hK v w (by simpa using hown) ⟨rfl, rfl, rfl, Nat.le_refl _, fun _ _ _ => rfl⟩
  | some ad =>
    obtain ⟨v', w', hrun, r1, r2, _⟩ := run_append_own (P := Tryd.prog) w base 22 o.type 5 u0 (.int .u8 0) 1 1 Tryd.underlying22 hu hu0 hu1 hu2 rfl (by decide) v xs.length _ hown ad bs.length c (bs.map (Value.int .u8)) (by simp) (by
      intro j u hj
      rw [List.getElem?_map] at hj
      obtain ⟨y, hy, rfl⟩ := Option.map_eq_some_iff.1 hj
      have hjl := (List.getElem?_eq_some_iff.1 hy).1
      obtain ⟨ad', e, hc⟩ := hb.src.cells (by omega)
      cases e
      exact hc j y hy) (oneCell_u8 _) (by unfold maxLen; omega) (by omega) hbase
    unfold Oper.wp
    simp [execOp, hop, resolve, invoke, builtin, hs, hx, hrun, Result.andThen]
    exact hK v' w' (by simpa using r1) r2

theorem own_base {w : World} {base : Nat} {e : TypeId} {size : Nat} {v : Value} {n : Nat} {xs : List Value} (h : w.ownsRow base e size v n xs) {j : Nat} (hj : v.ownBlock = some j) : base ≤ j := by
  rcases h.2 with ⟨rfl, _⟩ | ⟨g, cap, cur, rfl, hg, _⟩
  · simp [Value.ownBlock] at hj
  · simp [Value.ownBlock] at hj
    omega

def plainI (x : Int) : Prop := 32 ≤ x ∧ x ≤ 126 ∧ x ≠ 92
instance (x : Int) : Decidable (plainI x) := by unfold plainI; infer_instance

theorem plain_bytL {xa : List Int} (h : ∀ x ∈ xa, plainI x) : ∀ c ∈ bytL xa, plainB c = true := by
  intro c hc
  unfold bytL at hc
  obtain ⟨x, hx, rfl⟩ := List.mem_map.1 hc
  have hp := h x hx
  unfold plainI at hp
  refine decide_eq_true ?_
  rw [UInt8.toNat_ofNat']
  omega

theorem show_pl (xa : List Int) (l : List UInt8) (h : ∀ x ∈ xa, plainI x) : (⟨(showR (bytL xa ++ l)).toArray⟩ : ByteArray) = strOfNums xa ++ ⟨(showR l).toArray⟩ := by
  rw [show_plain_app _ _ (plain_bytL h)]
  show _ = (⟨(bytL xa).toArray⟩ : ByteArray) ++ _
  rw [ByteArray.mk_append_mk]
theorem show_pl0 (xa : List Int) (h : ∀ x ∈ xa, plainI x) : (⟨(showR (bytL xa)).toArray⟩ : ByteArray) = strOfNums xa := by
  have := show_plain_app (bytL xa) [] (plain_bytL h)
  rw [List.append_nil, showR_nil, List.append_nil] at this
  rw [this]
  rfl

set_option maxHeartbeats 8000000 in
theorem plain_any (q0 q1 : Option Addr) (xa bs : List Int) (c0 c1 : Nat) (w : World) (ha : Byt w q0 xa c0) (hb : Byt w q1 bs c1) (hT : Lib.Utf8Tabs 0 1 w) (hl : 4 * (xa.length + bs.length) ≤ 140737488355328) :
    Calls Tryd.prog 4 #[.slice q0 xa.length c0, .slice q1 bs.length c1] w fun e w' => e = .returned (.bool true) ∧ Mod No w w' := by
  have HA := Lib.hid ha
  have HB := Lib.hid hb
  have HT := Lib.hid hT
  clear ha hb hT
  have HS0 := Lib.hid (show_any q1 bs c1 w HB.out HT.out (by omega))
  obtain ⟨sb, hsb⟩ : ∃ sb : ByteArray, sb = ⟨(showR (bytL bs)).toArray⟩ := ⟨_, rfl⟩
  rw [strOfNums_l, ← hsb] at HS0
  have hseen : ∀ x ∈ sb.data.toList, seenB x := by rw [hsb]; exact show_seen _
  have hsbl : sb.size ≤ 140737488355328 := by
    have := show_len (bytL bs)
    rw [Lib.size_eq, hsb]
    show (showR (bytL bs)).length ≤ _
    rw [bytL_len] at this
    omega
  have HSB := Lib.hid hsb
  have HSEEN := Lib.hid hseen
  clear hsb hseen
  have hal := HA.out.len
  go_enter Tryd.func4, Tryd.ntmps4
  go_wp2_with (go_at_call 9; refine HS0.out.mono ?_; rintro e w1 ⟨rfl, h1⟩)
  have HM1 : Hid (Mod No w w1) := Mod.of_below h1
  clear h1 HS0
  go_loopw [6] (fun vi wx => ∃ i : Nat, vi = .int .i64 i ∧ i ≤ sb.size ∧ wx = w1) (fun vi _ => sb.size - (intOf vi).toNat)
  case atStart => exact ⟨0, rfl, by omega, rfl⟩
  case round =>
    obtain ⟨i, rfl, hi, rfl⟩ := hrel
    by_cases hlt : i < sb.size
    · have hlt2 : (i : Int) < sb.size := by omega
      have hi0 : (0 : Int) ≤ i := by omega
      obtain ⟨c, hc⟩ : ∃ c : Nat, (sb[i]'hlt).toNat = c := ⟨_, rfl⟩
      have hcs := HSEEN.out (sb[i]'hlt) (by
        have e : sb[i]'hlt = sb.data.toList[i]'(by rw [← Lib.size_eq]; exact hlt) := rfl
        rw [e]; exact List.getElem_mem _)
      unfold seenB at hcs
      rw [hc] at hcs
      have n1 : ¬ (c : Int) < 32 := by omega
      have n2 : ¬ (c : Int) = 127 := by omega
      have n3 : ¬ c = 127 := by omega
      have n4 : ¬ c < 32 := by omega
      have n5 : IntKind.i64.wrap ((i : Int) + 1) = (i : Int) + 1 := IntWalk.i64_in _ (by omega)
      clear hcs
      go_wp2_with fail
      exact ⟨⟨i + 1, by go_num, by omega, by first | trivial | rfl⟩, by simp [intOf]; omega⟩
    · obtain rfl : i = sb.size := by omega
      have n1 : ¬ (sb.size : Int) < (sb.size : Int) := by omega
      go_wp2_with fail
      have hrg := HA.out.range
      go_loopw [7, 8] (fun vp vi wx => ∃ (i : Nat) (p : Bool), vp = .bool p ∧ vi = .int .i64 i ∧ i ≤ xa.length ∧ wx = wr ∧ (p = true ↔ ∀ x ∈ xa.take i, plainI x)) (fun _ vi _ => xa.length - (intOf vi).toNat)
      case atStart => exact ⟨0, true, rfl, rfl, by omega, rfl, by simp⟩
      case round =>
        obtain ⟨i, p, rfl, rfl, hi2, rfl, hp⟩ := hrel
        by_cases hlt : i < xa.length
        · have hlt2 : (i : Int) < xa.length := by omega
          have hi0 : (0 : Int) ≤ i := by omega
          obtain ⟨bq, off, rfl, hbq, hbc⟩ := HA.out.at_ (by omega)
          obtain ⟨x, hx⟩ : ∃ x, xa[i]? = some x := ⟨_, List.getElem?_eq_getElem hlt⟩
          have hxr := hrg x (List.mem_of_getElem? hx)
          have hc1 : wr.cell? ⟨bq, off + i, none⟩ = some (.int .u8 x) := (World.cell?_of_block (w := w) (HM1.out.block bq hbq (fun q => q))).trans (hbc i x hx)
          have htk : xa.take (i + 1) = xa.take i ++ [x] := by rw [List.take_add_one, hx]; rfl
          have hall : (∀ y ∈ xa.take (i + 1), plainI y) ↔ ((∀ y ∈ xa.take i, plainI y) ∧ plainI x) := by
            rw [htk]
            constructor
            · intro h; exact ⟨fun y hy => h y (by simp [hy]), h x (by simp)⟩
            · rintro ⟨h, k⟩ y hy
              rcases List.mem_append.1 hy with h1 | h1
              · exact h y h1
              · rw [List.mem_singleton.1 h1]; exact k
          have n5 : IntKind.i64.wrap ((i : Int) + 1) = (i : Int) + 1 := IntWalk.i64_in _ (by omega)
          have HALL := Lib.hid hall
          have HP := Lib.hid hp
          clear hall hp hbc htk hx
          cases p with
          | false =>
            go_wp2_with fail
            exact ⟨⟨i + 1, false, by first | trivial | rfl, by first | trivial | go_num, by omega, by first | trivial | rfl, ⟨fun h => Bool.noConfusion h, fun h => HP.out.2 (HALL.out.1 h).1⟩⟩, by simp [intOf]; omega⟩
          | true =>
            have hq := HP.out.1 rfl
            by_cases x1 : 32 ≤ x
            · by_cases x2 : x ≤ 126
              · by_cases x3 : x = 92
                · subst x3
                  have HQ := Lib.hid hq
                  clear hq
                  go_wp2_with fail
                  exact ⟨⟨i + 1, false, by first | trivial | rfl, by first | trivial | go_num, by omega, by first | trivial | rfl, ⟨fun h => Bool.noConfusion h, fun h => absurd ((HALL.out.1 h).2.2.2) (by simp)⟩⟩, by simp [intOf]; omega⟩
                · have HQ := Lib.hid hq
                  have x4 : (x != 92) = true := by simp [x3]
                  clear hq
                  go_wp2_with fail
                  exact ⟨⟨i + 1, true, by first | trivial | rfl, by first | trivial | go_num, by omega, by first | trivial | rfl, ⟨fun _ => HALL.out.2 ⟨HQ.out, x1, x2, x3⟩, fun _ => rfl⟩⟩, by simp [intOf]; omega⟩
              · have HQ := Lib.hid hq
                clear hq
                go_wp2_with fail
                exact ⟨⟨i + 1, false, by first | trivial | rfl, by first | trivial | go_num, by omega, by first | trivial | rfl, ⟨fun h => Bool.noConfusion h, fun h => absurd (HALL.out.1 h).2.2.1 x2⟩⟩, by simp [intOf]; omega⟩
            · have HQ := Lib.hid hq
              clear hq
              go_wp2_with fail
              exact ⟨⟨i + 1, false, by first | trivial | rfl, by first | trivial | go_num, by omega, by first | trivial | rfl, ⟨fun h => Bool.noConfusion h, fun h => absurd (HALL.out.1 h).2.1 x1⟩⟩, by simp [intOf]; omega⟩
        · obtain rfl : i = xa.length := by omega
          have n3 : ¬ (xa.length : Int) < (xa.length : Int) := by omega
          rw [List.take_of_length_le (Nat.le_refl _)] at hp
          have HAW : Hid (∀ w', Mod No w w' → Calls Tryd.prog 11 #[] w' fun e w2 => e = .returned (.bool true) ∧ Mod No w' w2) := fun w' hm => awake16_yes w' (Utf8Tabs_below HT.out hm.no_below)
          cases p with
          | false =>
            clear hp
            go_wp2_with (go_at_call 11; refine (HAW.out _ HM1.out).mono ?_; rintro e w2 ⟨rfl, h2⟩)
            go_ret
            exact ⟨rfl, HM1.out.trans h2⟩
          | true =>
            have hpl := hp.1 rfl
            clear hp
            have HPL := Lib.hid hpl
            clear hpl
            have hca : ∀ w', Mod No w w' → (convert 22 9 (.slice q0 xa.length c0)).run Tryd.prog w' = .ok (.string (strOfNums xa)) w' := fun w' hm => byt_text (HA.out.kept hm)
            have hza : (strOfNums xa).size = xa.length := strOfNums_size xa
            have n9 : ¬ (9223372036854775807 < (strOfNums xa).size + sb.size) := by omega
            have HSA : Hid (∀ w', Mod No w w' → Calls Tryd.prog 9 #[.slice q0 xa.length c0] w' fun e w2 => e = .returned (.string (strOfNums xa)) ∧ Mod No w' w2) := fun w' hm => by
              have := show_any q0 xa c0 w' (HA.out.kept hm) (Utf8Tabs_below HT.out hm.no_below) (by omega)
              rw [strOfNums_l, show_pl0 xa HPL.out] at this
              exact this.mono fun _ _ h => ⟨h.1, Mod.of_below h.2⟩
            have HSC : Hid (∀ w' q n c, Mod No w w' → n = xa.length + bs.length → Byt w' q (xa ++ bs) c → Calls Tryd.prog 9 #[.slice q n c] w' fun e w2 => e = .returned (.string (strOfNums xa ++ sb)) ∧ Mod No w' w2) := fun w' q n c hm hn hb => by
              rw [← List.length_append] at hn
              subst hn
              have := show_any q (xa ++ bs) c w' hb (Utf8Tabs_below HT.out hm.no_below) (by rw [List.length_append]; omega)
              have e1 : bytL (xa ++ bs) = bytL xa ++ bytL bs := by unfold bytL; rw [List.map_append]
              rw [strOfNums_l, e1, show_pl xa _ HPL.out, ← HSB.out] at this
              exact this.mono fun _ _ h => ⟨h.1, Mod.of_below h.2⟩
            clear hza
            go_upto_region 14 with (fail)
            have HBY0 : Hid (∀ w', Mod No w w' → Byt w' q0 xa c0) := fun w' hm => HA.out.kept hm
            have HBY1 : Hid (∀ w', Mod No w w' → Byt w' q1 bs c1) := fun w' hm => HB.out.kept hm
            have HOF : Hid (∀ w' b q n c, w'.ownsRow b 5 1 (.slice q n c) n ((([] ++ xa) ++ bs).map (Value.int .u8)) → Byt w' q (xa ++ bs) c) := fun w' b q n c h => (Byt.ofOwn (bs := xa ++ bs) h (fun x hx => (List.mem_append.1 hx).elim (hrg x) (HB.out.range x)) (by rw [List.length_append]; omega)).2.1
            go_region_held3 (fun w' : World => Mod No w w') (first | exact HM1.out.drew | assumption | exact Mod.alloc (by assumption) _) (first
              | (go_at_call 9; refine (HSA.out _ (HM1.out.drew)).mono ?_; rintro e w2 ⟨rfl, h2⟩; have hS2 : (fun w' : World => Mod No w w') w2 := HM1.out.drew.trans h2; clear h2 HSA)
              | (go_at_call 9; refine (HSC.out _ _ _ _ hS4 rfl HBY4.out).mono ?_; rintro e w6 ⟨rfl, h6⟩; have hS6 : (fun w' : World => Mod No w w') w6 := Mod.trans hS4 h6; clear h6)
              | (go_at_call 11; refine (HAW.out _ hS6).mono ?_; rintro e w7 ⟨rfl, h7⟩; have hS7 : (fun w' : World => Mod No w w') w7 := Mod.trans hS6 h7; clear h7)
              | (refine step_append_byt (by rfl) (.tmp 64) (.tmp 65) rfl w2.heap.size (.slice (some ⟨w2.heap.size, 0, none⟩) 0 0) [] (by simp [Act.eval]) (own_empty (heap_alloc_new w2 (.cells #[] 5)) (Nat.le_refl _)) q0 xa c0 (by simp [Act.eval]) (HBY0.out _ (Mod.alloc hS2 _)) (by simp; omega) (by simp) ?_; intro v3 w3 hown3 hgr3; obtain ⟨q3, c3, rfl⟩ := owns_slice hown3; have hS3 : (fun w' : World => Mod No w w') w3 := (Mod.alloc hS2 _).grown hgr3 (fun j ej hj => by cases ej; exact absurd hj (Nat.not_lt.2 (Mod.size hS2))); have HO3 := Lib.hid hown3; have HG3 := Lib.hid hgr3; clear hown3 hgr3)
              | (refine step_append_byt (by rfl) (.tmp 66) (.tmp 67) rfl w2.heap.size (.slice q3 ([] ++ xa).length c3) ([] ++ xa) (by simp [Act.eval]) HO3.out q1 bs c1 (by simp [Act.eval]) (HBY1.out _ hS3) (by simp; omega) (by have := HG3.out.size; simp at this ⊢; omega) ?_; intro v4 w4 hown4 hgr4; obtain ⟨q4, c4, rfl⟩ := owns_slice hown4; have hS4 : (fun w' : World => Mod No w w') w4 := Mod.grown hS3 hgr4 (fun j ej hj => absurd hj (Nat.not_lt.2 (Nat.le_trans (Mod.size hS2) (own_base HO3.out ej)))); have HBY4 : Hid (Byt w4 q4 (xa ++ bs) c4) := Lib.hid (HOF.out _ _ _ _ _ hown4); clear hown4 hgr4))
            go_wp2_with fail
            go_ret
            exact ⟨rfl, hS7⟩

end Go.Proofs.YtmdeljacbekbpaaDoor

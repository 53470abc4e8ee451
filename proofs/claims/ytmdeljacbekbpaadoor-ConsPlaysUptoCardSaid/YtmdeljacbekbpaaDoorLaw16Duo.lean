/- Both machines, a view of each, a console of each. -/
import Derived.Test.YtmdeljacbekbpaaDoorRefFeed
import Derived.Test.YtmdeljacbekbpaaDoorLaw16Begin
import Derived.Test.YtmdeljacbekbpaaDoorBytesUp
import Derived.Test.YtmdeljacbekbpaaDoorOpenCOp
namespace Go.Proofs.YtmdeljacbekbpaaDoor
open Go.RowKit
set_option maxRecDepth 100000

theorem invS_wr {m : Nat} {S : List Fr} (h : invS m S) (i off : Int) (bs : List Int) : invS m (wrR S i off bs) := by
  unfold wrR
  split
  · split
    · rename_i f hf
      split
      · exact h
      · rename_i ho
        have hv := h f (List.mem_of_getElem? hf)
        exact h.set _ ⟨fun q => absurd q ho, hv.own, hv.type, hv.count, hv.zero⟩
    · exact h
  · exact h
theorem invS_feed {m : Nat} : ∀ (xs : List Int) {S : List Fr} (o : Co), invS m S → invS m (feedGo S o xs).1
  | [], _, _, h => h
  | x :: xs, _, o, h => by rw [feedGo]; exact invS_feed xs _ (invS_wr h _ _ _)
theorem feedGo_len : ∀ (xs : List Int) (S : List Fr) (o : Co), (feedGo S o xs).1.length = S.length
  | [], _, _ => rfl
  | x :: xs, S, o => by rw [feedGo, feedGo_len xs, wrR_len]
theorem outR_len (l : List Pk) (N : Int) (S : List Fr) (mfn om : Int) (n : Nat) : (outR l N S mfn om n).1.length = S.length := by
  unfold outR; split
  · exact pokes_len _ _
  · exact (pokes_len _ _).trans (pokes_len _ _)
theorem outR_inv {m : Nat} {S : List Fr} (h : invS m S) (l : List Pk) (N : Int) (mfn om : Int) (n : Nat) : invS m (outR l N S mfn om n).1 := by
  unfold outR; split
  · exact invS_pokes _ h
  · exact invS_pokes _ (invS_pokes _ h)
theorem bytesAt_len (S : List Fr) (mfn off : Int) (n : Nat) : (bytesAt S mfn off n).length ≤ n := by
  unfold bytesAt; split
  · rw [List.length_take]; omega
  · simp
theorem outR_bytes (l : List Pk) (N : Int) (S : List Fr) (mfn om : Int) (n : Nat) : (outR l N S mfn om n).2.2.length ≤ n := by
  unfold outR; split
  · exact bytesAt_len _ _ _ _
  · rename_i h
    have h1 := bytesAt_len (pokes (dueAt l (N + 1)) S) mfn (16 + om % 128) (128 - (om % 128).toNat)
    have h2 := bytesAt_len (pokes (dueAt l (N + 2)) (pokes (dueAt l (N + 1)) S)) mfn 16 (n - (128 - (om % 128).toNat))
    rw [List.length_append]
    omega

/-- Where the things of both lie. -/
structure Lay16 (w0 : World) (B F b : Nat) (K : RfK) (c b0 : Nat) : Prop where
  kb : ∀ j, K.has j → j < b0
  lt : c < b0 ∧ b < b0 ∧ F < b0 ∧ B < b0
  ne : c ≠ F ∧ c ≠ b ∧ c ≠ B
  kn : ¬ K.has F ∧ ¬ K.has b ∧ ¬ K.has B ∧ ¬ K.has c
  new : w0.heap.size ≤ F ∧ w0.heap.size ≤ b ∧ w0.heap.size ≤ c ∧ 1 < w0.heap.size
  kw : ∀ j, K.has j → w0.heap.size ≤ j

structure Duo16 (w0 : World) (B F b base top : Nat) (vk : ViK) (X : Nat) (K : RfK) (q : Option Addr) (cap : Nat) (l : List Pk) (N : Int) (S : List Fr) (c : Nat) (o : Co) (lv pv rlv rpv : Value) (b0 : Nat) (s : List (List Int) × List Int) (w : World) : Prop where
  cc : DW B F b base top vk N l S o lv pv b0 s w
  rr : RCV w0 X K q cap l N S c o rlv rpv b0 s w
  lay : Lay16 w0 B F b K c b0
  ap : ∀ j, Own2 rlv rpv j → ¬ Own2 lv pv j
  xs : ∀ j, Own2 lv pv j → j ≠ X
  rs : ∀ j, Own2 rlv rpv j → j < base ∨ top ≤ j
  vw : b0 ≤ base ∧ base ≤ top ∧ top ≤ X

theorem Duo16.no {w0 : World} {B F b base top : Nat} {vk : ViK} {X : Nat} {K : RfK} {q : Option Addr} {cap : Nat} {l : List Pk} {N : Int} {S : List Fr} {c : Nat} {o : Co} {lv pv rlv rpv : Value} {b0 : Nat} {s : List (List Int) × List Int} {w w' : World} (h : Duo16 w0 B F b base top vk X K q cap l N S c o lv pv rlv rpv b0 s w) (hm : Mod No w w') : Duo16 w0 B F b base top vk X K q cap l N S c o lv pv rlv rpv b0 s w' :=
  ⟨h.cc.no hm, h.rr.no hm, h.lay, h.ap, h.xs, h.rs, h.vw⟩
/-- The document's side behind a call of the code's. -/
theorem Duo16.mid {w0 : World} {B F b base top : Nat} {vk : ViK} {X : Nat} {K : RfK} {q : Option Addr} {cap : Nat} {l : List Pk} {N : Int} {S : List Fr} {c : Nat} {o : Co} {lv pv rlv rpv : Value} {b0 : Nat} {s : List (List Int) × List Int} {w w1 : World} (h : Duo16 w0 B F b base top vk X K q cap l N S c o lv pv rlv rpv b0 s w) (hm : Mod (P4 F vk b lv pv) w w1) : RCV w0 X K q cap l N S c o rlv rpv b0 s w1 := by
  obtain ⟨l1, ⟨l2, l3, l4, l5⟩, ⟨l6, l7, l8⟩, ⟨l9, l10, l11, l12⟩, ⟨l13, l14, l15, l16⟩, l17⟩ := h.lay
  have hr := h.cc.cw.v.d.rng
  have hv := h.vw
  have hX := h.rr.hX
  refine h.rr.other hm (fun i hi => ?_)
  rcases hi with (e | e | e) | e
  · exact ⟨fun q => l9 (e ▸ q), by omega, by omega, fun q => by have := (h.rr.lp.low q).1; omega, by omega⟩
  · exact ⟨fun q => by have := l1 i q; omega, by omega, by omega, fun q => by have := h.rs i q; omega, by omega⟩
  · exact ⟨fun q => l10 (e ▸ q), by omega, by omega, fun q => by have := (h.rr.lp.low q).1; omega, by omega⟩
  · have h1 := (h.cc.lp.low e).1
    exact ⟨fun q => by have := l1 i q; omega, h.xs i e, by omega, fun q => h.ap i q e, by omega⟩
theorem Duo16.pair {w0 : World} {B F b base top : Nat} {vk : ViK} {X : Nat} {K : RfK} {q : Option Addr} {cap : Nat} {l : List Pk} {N N' : Int} {S S' : List Fr} {c : Nat} {o o' : Co} {lv pv rlv rpv lv' pv' rlv' rpv' : Value} {b0 : Nat} {s s' : List (List Int) × List Int} {w w1 wb w2 : World} (h : Duo16 w0 B F b base top vk X K q cap l N S c o lv pv rlv rpv b0 s w)
    (h1 : DW B F b base top vk N' l S' o' lv' pv' b0 s' w1) (hm1 : Mod (P4 F vk b lv pv) w w1) (hn1 : ∀ j, Own2 lv' pv' j → Own2 lv pv j ∨ w.heap.size ≤ j) (hb : Mod No w1 wb)
    (h2 : RCV w0 X K q cap l N' S' c o' rlv' rpv' b0 s' w2) (hm2 : Mod (Q4 K X c rlv rpv) wb w2) (hn2 : ∀ j, Own2 rlv' rpv' j → Own2 rlv rpv j ∨ wb.heap.size ≤ j) : Duo16 w0 B F b base top vk X K q cap l N' S' c o' lv' pv' rlv' rpv' b0 s' w2 := by
  obtain ⟨l1, ⟨l2, l3, l4, l5⟩, ⟨l6, l7, l8⟩, ⟨l9, l10, l11, l12⟩, ⟨l13, l14, l15, l16⟩, l17⟩ := h.lay
  have hr := h.cc.cw.v.d.rng
  have hv := h.vw
  have hs1 := hm1.size
  have hsb := hb.size
  have htop := h.cc.top
  have hXt := h.rr.top.1
  have hap : ∀ j, Own2 rlv rpv j → ¬ Own2 lv' pv' j := fun j hj hj2 => by
    rcases hn1 j hj2 with e | e
    · exact h.ap j hj e
    · have := (h.rr.lp.low hj).2; omega
  refine ⟨(h1.no hb).other hm2 (fun i hi => ?_), h2, h.lay, fun j hj hj2 => ?_, fun j hj => ?_, fun j hj => ?_, h.vw⟩
  · rcases hi with e | e | e | e
    · have e2 := l1 i (RfK.inn_has e)
      have e3 := l17 i (RfK.inn_has e)
      exact ⟨fun e4 => l9 (e4 ▸ RfK.inn_has e), fun e4 => l11 (e4 ▸ RfK.inn_has e), fun e4 => l10 (e4 ▸ RfK.inn_has e), by omega, by omega, fun e4 => by have := (h1.lp.low e4).1; omega⟩
    · exact ⟨by omega, by omega, by omega, by omega, by omega, fun e4 => by
        rcases hn1 i e4 with e5 | e5
        · exact h.xs i e5 e
        · omega⟩
    · exact ⟨by omega, by omega, by omega, by omega, by omega, fun e4 => by have := (h1.lp.low e4).1; omega⟩
    · have e2 := (h.rr.lp.low e).1
      have e3 := h.rs i e
      exact ⟨by omega, by omega, by omega, e3, by omega, hap i e⟩
  · rcases hn2 j hj with e | e
    · exact hap j e hj2
    · have := (h1.lp.low hj2).2; omega
  · rcases hn1 j hj with e | e
    · exact h.xs j e
    · omega
  · rcases hn2 j hj with e | e
    · exact h.rs j e
    · omega

/-- Both machines and both consoles, no view. -/
structure Rest16 (w0 : World) (B F : Nat) (K : RfK) (b c : Nat) (S : List Fr) (o : Co) (lv pv rlv rpv : Value) (b0 : Nat) (s : List (List Int) × List Int) (w : World) : Prop where
  rd : RoundS w0 B F 2 0 K S w
  co : CoM w b o lv pv
  lp : LP w b0 lv pv s.1 s.2
  rc : RCoM w c o rlv rpv
  rl : LP w b0 rlv rpv s.1 s.2
  ok : o.ok
  part : s.2.length < 128
  ap : ∀ j, Own2 rlv rpv j → ¬ Own2 lv pv j
  lay : Lay16 w0 B F b K c b0
  hb0 : b0 ≤ w.heap.size ∧ w0.heap.size ≤ b0
  tabs : Lib.Utf8Tabs 0 1 w0

theorem Rest16.no {w0 : World} {B F : Nat} {K : RfK} {b c : Nat} {S : List Fr} {o : Co} {lv pv rlv rpv : Value} {b0 : Nat} {s : List (List Int) × List Int} {w w' : World} (h : Rest16 w0 B F K b c S o lv pv rlv rpv b0 s w) (hm : Mod No w w') : Rest16 w0 B F K b c S o lv pv rlv rpv b0 s w' :=
  ⟨h.rd.no hm, h.co.no hm, h.lp.no hm, h.rc.no hm, h.rl.no hm, h.ok, h.part, h.ap, h.lay, ⟨Nat.le_trans h.hb0.1 hm.size, h.hb0.2⟩, h.tabs⟩

/-- Two views are made. -/
theorem Rest16.views {w0 : World} {B F : Nat} {K : RfK} {b c : Nat} {S : List Fr} {o : Co} {lv pv rlv rpv : Value} {b0 : Nat} {s : List (List Int) × List Int} {w w1 w2 : World} {vk : ViK} {X : Nat} {q : Option Addr} {cap : Nat} {l : List Pk} (h : Rest16 w0 B F K b c S o lv pv rlv rpv b0 s w) (hm1 : Mod No w w1) (hv : ViM w1 w.heap.size w1.heap.size vk B 0 l) (hX : w1.heap.size ≤ X) (hm2 : Mod No w1 w2) (hx : RvM w2 X K q cap l 0) :
    Duo16 w0 B F b w.heap.size w1.heap.size vk X K q cap l 0 S c o lv pv rlv rpv b0 s w2 := by
  have h2 := (h.no hm1).no hm2
  have hs := hm1.size
  have hs2 := hm2.size
  have hb := h.hb0
  obtain ⟨l1, ⟨l2, l3, l4, l5⟩, ⟨l6, l7, l8⟩, ⟨l9, l10, l11, l12⟩, ⟨l13, l14, l15, l16⟩, l17⟩ := h.lay
  have hXlt := lt_of_blk hx.head
  have hmm := h2.rd.mod
  refine ⟨⟨⟨h2.rd.two.p, hv.no hm2, h2.co, h.ok, h.rd.two.p.ltF, .inl (by omega)⟩, h2.lp, by omega, fun j hj => ?_, hs2, h2.hb0.1, tabs_mod h.tabs hmm (fun q => q) (fun q => q), by omega, h.part⟩,
    ⟨h2.rd.two.r, hx, h2.rc, h2.rl, h.ok, h.part, hmm, l17, by have := h.rd.mod.size; omega, fun j hj => ?_, by omega, h2.hb0.1, ⟨l12, by omega, fun e => by have := l1 X e; omega⟩, ⟨hXlt, fun j hj => by have := l1 j hj; omega⟩⟩, h.lay, h.ap, fun j hj => ?_, fun j hj => ?_, by omega⟩
  · have e1 := h.lp.low hj
    exact ⟨by omega, by omega, .inl e1.2⟩
  · have e1 := h.rl.low hj
    exact ⟨fun e => by have := l1 j e; omega, by omega⟩
  · have e1 := h.lp.low hj; omega
  · have e1 := h.rl.low hj; exact .inl e1.2

theorem Duo16.back {w0 : World} {B F b base top : Nat} {vk : ViK} {X : Nat} {K : RfK} {q : Option Addr} {cap : Nat} {l : List Pk} {N : Int} {S : List Fr} {c : Nat} {o : Co} {lv pv rlv rpv : Value} {b0 : Nat} {s : List (List Int) × List Int} {w : World} (h : Duo16 w0 B F b base top vk X K q cap l N S c o lv pv rlv rpv b0 s w) (hS : S.length = 2) (hI : invS 0 S) (hT : Lib.Utf8Tabs 0 1 w0) : Rest16 w0 B F K b c S o lv pv rlv rpv b0 s w :=
  ⟨⟨⟨h.cc.cw.p, h.rr.r, hI⟩, hS, h.rr.mod, h.lay.new.1, h.rr.hK⟩, h.cc.cw.co, h.cc.lp, h.rr.rc, h.rr.lp, h.cc.cw.ok, h.cc.part, h.ap, h.lay, ⟨h.cc.b0, h.rr.hX.2.2⟩, hT⟩

/-- A drain, in both. -/
theorem drain_both (S : List Fr) (o : Co) (l : List Pk) (s : List (List Int) × List Int) (hS : S.length = 2) (hI : invS 0 S) (hl : l.length ≤ 64) (hls : (s.1.length + 129) * 16 ≤ 140737488355328) : ∃ (r : Int) (cl : Bool) (er N' : Int) (S' : List Fr) (o' : Co) (s' : List (List Int) × List Int), S'.length = 2 ∧ invS 0 S' ∧ o'.mfn = o.mfn ∧ s'.1.length ≤ s.1.length + 128 ∧
    (∀ w B F b base top vk lv pv b0, DW B F b base top vk 0 l S o lv pv b0 s w → Calls Tryd.prog 18 #[.pointer (some ⟨b, 0, none⟩), .pointer (some ⟨vk.V, 0, none⟩)] w fun e w' => ∃ lv' pv', e = .returned (.tuple #[.int .i64 r, .bool cl, .int .i64 er]) ∧ DW B F b base top vk N' l S' o' lv' pv' b0 s' w' ∧ Mod (P4 F vk b lv pv) w w' ∧ ∀ j, Own2 lv' pv' j → Own2 lv pv j ∨ w.heap.size ≤ j) ∧
    (∀ w w0 X K q cap c lv pv b0, PkS w0 q l → RCV w0 X K q cap l 0 S c o lv pv b0 s w → Calls Tryd.prog 48 #[.pointer (some ⟨c, 0, none⟩), .pointer (some ⟨X, 0, none⟩)] w fun e w' => ∃ lv' pv', e = .returned (.tuple #[.int .i64 r, .bool cl, .int .i64 er]) ∧ RCV w0 X K q cap l N' S' c o' lv' pv' b0 s' w' ∧ Mod (Q4 K X c lv pv) w w' ∧ ∀ j, Own2 lv' pv' j → Own2 lv pv j ∨ w.heap.size ≤ j) := by
  by_cases hp : InP S o.mfn 0 2
  · obtain ⟨f, hf⟩ : ∃ f, (pokes (dueAt l 0) S)[o.mfn.toNat]? = some f := ⟨_, List.getElem?_eq_getElem (by rw [pokes_len]; have := hp.1; omega)⟩
    obtain ⟨ahead, ha⟩ : ∃ ahead, ahead = (word2 ((f.bytes.drop 0).take 2) - o.om) % 65536 := ⟨_, rfl⟩
    obtain ⟨n, hn⟩ : ∃ n : Nat, (n : Int) = min ahead 128 := ⟨(min ahead 128).toNat, by omega⟩
    refine ⟨n, decide ((n : Int) < ahead), 0, (outR l 0 (pokes (dueAt l 0) S) o.mfn o.om n).2.1, wrR (outR l 0 (pokes (dueAt l 0) S) o.mfn o.om n).1 o.mfn 2 (twoB ((o.om + n) % 65536)), { o with om := (o.om + n) % 65536 }, comesR s (outR l 0 (pokes (dueAt l 0) S) o.mfn o.om n).2.2, ?_, ?_, ?_, ?_, fun w B F b base top vk lv pv b0 h => ?_, fun w w0 X K q cap c lv pv b0 hq h => ?_⟩
    rotate_right 2
    · exact drain_ok f w h ⟨by omega, by omega⟩ (by omega) hp hf ahead ha n hn hls _ rfl
    · have h9 := rdrain_ok f w h hq ⟨by omega, by omega⟩ (by omega) hp hf ahead ha n hn hls _ rfl
      have e9 : decide (128 < ahead) = decide ((n : Int) < ahead) := decide_eq_decide.2 (by omega)
      unfold RDrainPost at h9
      rw [e9] at h9
      exact h9
    · rw [wrR_len, outR_len, pokes_len]; exact hS
    · exact invS_wr (outR_inv (invS_pokes _ hI) _ _ _ _ _) _ _ _
    · rfl
    · have h1 := comesR_lines (outR l 0 (pokes (dueAt l 0) S) o.mfn o.om n).2.2 s
      have h2 := outR_bytes l 0 (pokes (dueAt l 0) S) o.mfn o.om n
      omega
  · refine ⟨0, false, 1, 0 + 1, pokes (dueAt l 0) S, o, s, by rw [pokes_len]; exact hS, invS_pokes _ hI, rfl, by omega, fun w B F b base top vk lv pv b0 h => ?_, fun w w0 X K q cap c lv pv b0 hq h => ?_⟩
    · refine (drain_bad w h.cw ⟨by omega, by omega⟩ (by omega) hp).mono ?_
      rintro e w' ⟨rfl, hc, hm⟩
      exact ⟨lv, pv, rfl, h.step hc hm, hm.mono (fun _ _ q => .inl q), fun j hj => .inl hj⟩
    · refine (rdrain_bad w h hq ⟨by omega, by omega⟩ (by omega) hp).mono ?_
      rintro e w' ⟨rfl, hc, hm⟩
      exact ⟨lv, pv, rfl, hc, hm, fun j hj => .inl hj⟩

/-- A feed, in both. -/
theorem feed_both (S : List Fr) (o : Co) (l : List Pk) (s : List (List Int) × List Int) (bs : List Int) (hS : S.length = 2) (hI : invS 0 S) (hl : l.length ≤ 64) : ∃ (r er N' : Int) (S' : List Fr) (o' : Co), S'.length = 2 ∧ invS 0 S' ∧ o'.mfn = o.mfn ∧
    (∀ w B F b base top vk lv pv b0 q cap, DW B F b base top vk 0 l S o lv pv b0 s w → Byt w q bs cap → (0 < bs.length → ∀ bq off, q = some ⟨bq, off, none⟩ → bq ≠ F ∧ bq ≠ vk.V ∧ bq ≠ b) → Calls Tryd.prog 15 #[.pointer (some ⟨b, 0, none⟩), .pointer (some ⟨vk.V, 0, none⟩), .slice q bs.length cap] w fun e w' => e = .returned (.tuple #[.int .i64 r, .int .i64 er]) ∧ DW B F b base top vk N' l S' o' lv pv b0 s w' ∧ Mod (P3 F vk b) w w') ∧
    (∀ w w0 X K q cap c lv pv b0 qb bcap, PkS w0 q l → RCV w0 X K q cap l 0 S c o lv pv b0 s w → Byt w0 qb bs bcap → Calls Tryd.prog 50 #[.pointer (some ⟨c, 0, none⟩), .pointer (some ⟨X, 0, none⟩), .slice qb bs.length bcap] w fun e w' => e = .returned (.tuple #[.int .i64 r, .int .i64 er]) ∧ RCV w0 X K q cap l N' S' c o' lv pv b0 s w' ∧ Mod (Q4 K X c lv pv) w w') := by
  by_cases hp : InP S o.mfn 4 2
  · obtain ⟨f, hf⟩ : ∃ f, (pokes (dueAt l 0) S)[o.mfn.toNat]? = some f := ⟨_, List.getElem?_eq_getElem (by rw [pokes_len]; have := hp.1; omega)⟩
    obtain ⟨n, hn⟩ : ∃ n : Nat, (n : Int) = min (bs.length : Int) (roomR o.im (word2 ((f.bytes.drop 4).take 2))) := ⟨(min (bs.length : Int) (roomR o.im (word2 ((f.bytes.drop 4).take 2)))).toNat, by unfold roomR; omega⟩
    refine ⟨n, 0, 0 + 1, wrR (feedGo (pokes (dueAt l 0) S) o (bs.take n)).1 o.mfn 6 (twoB (feedGo (pokes (dueAt l 0) S) o (bs.take n)).2.im), (feedGo (pokes (dueAt l 0) S) o (bs.take n)).2, ?_, ?_, ?_, fun w B F b base top vk lv pv b0 q cap h hb hq => ?_, fun w w0 X K q cap c lv pv b0 qb bcap hps h hb => ?_⟩
    rotate_right 2
    · refine (feed_ok f q bs cap w h.cw ⟨by omega, by omega⟩ (by omega) hp hf hb hq n hn).mono ?_
      rintro e w' ⟨rfl, hc, hm⟩
      exact ⟨rfl, h.step hc hm, hm⟩
    · exact rfeed_ok f qb bs bcap w h hps ⟨by omega, by omega⟩ (by omega) hp hf hb n hn
    · rw [wrR_len, feedGo_len, pokes_len]; exact hS
    · exact invS_wr (invS_feed _ _ (invS_pokes _ hI)) _ _ _
    · exact (feedGo_mfn _ _ _).1
  · refine ⟨0, 1, 0 + 1, pokes (dueAt l 0) S, o, by rw [pokes_len]; exact hS, invS_pokes _ hI, rfl, fun w B F b base top vk lv pv b0 q cap h hb hq => ?_, fun w w0 X K q cap c lv pv b0 qb bcap hps h hb => ?_⟩
    · refine (feed_bad q bs.length cap w h.cw ⟨by omega, by omega⟩ (by omega) hp).mono ?_
      rintro e w' ⟨rfl, hc, hm⟩
      exact ⟨rfl, h.step hc hm, hm⟩
    · exact rfeed_bad qb bs.length bcap w h hps ⟨by omega, by omega⟩ (by omega) hp

end Go.Proofs.YtmdeljacbekbpaaDoor

/- The law on what is fed: it comes in. -/
import Derived.Test.YtmdeljacbekbpaaDoorFeedPure
import Derived.Test.YtmdeljacbekbpaaDoorLaw16Shows
import Derived.Test.YtmdeljacbekbpaaDoorOpenBB
import Derived.BigQuiet
namespace Go.Proofs.YtmdeljacbekbpaaDoor
open Go.RowKit
set_option maxRecDepth 100000

theorem cnew0 (w : World) : Calls Tryd.prog 13 #[.int .i64 0] w fun e w' => e = .returned (.tuple #[.pointer (some ⟨w.heap.size, 0, none⟩), .int .i64 0]) ∧ Mod No w w' ∧ CoM w' w.heap.size ⟨0, 0, 0⟩ (.slice none 0 0) (.slice none 0 0) ∧ w.heap.size < w'.heap.size := by
  go_enter Tryd.func13, Tryd.ntmps13
  go_wp2
  go_ret2
  refine ⟨rfl, (Mod.refl No w).alloc _, heap_alloc_new w _, by simp⟩

/-- What stands behind begin, New, view.New. -/
structure Up16 (w0 : World) (B F b base top : Nat) (vk : ViK) (N : Int) (g : List Int) (c : Co) (lv pv : Value) (w : World) : Prop where
  cw : CW B F b base top vk N [] (pg1 g) c lv pv w
  mod : Mod No w0 w
  new : w0.heap.size ≤ F ∧ w0.heap.size ≤ b ∧ w0.heap.size ≤ vk.V

theorem Up16.no {w0 w w' : World} {B F b base top : Nat} {vk : ViK} {N : Int} {g : List Int} {c : Co} {lv pv : Value} (h : Up16 w0 B F b base top vk N g c lv pv w) (hm : Mod No w w') : Up16 w0 B F b base top vk N g c lv pv w' :=
  ⟨h.cw.no hm, h.mod.trans hm, h.new⟩
theorem Up16.step {w0 w w' : World} {B F b base top : Nat} {vk : ViK} {N N' : Int} {g g' : List Int} {c c' : Co} {lv pv lv' pv' : Value} (h : Up16 w0 B F b base top vk N g c lv pv w) (hm : Mod (P3 F vk b) w w') (hc : CW B F b base top vk N' [] (pg1 g') c' lv' pv' w') : Up16 w0 B F b base top vk N' g' c' lv' pv' w' := by
  have hn := h.new
  exact ⟨hc, h.mod.step hm (fun i hi q => by rcases q with q | q | q <;> omega), h.new⟩

theorem p3_one {F b : Nat} {vk : ViK} {w w' : World} (h : Mod (One F) w w') : Mod (P3 F vk b) w w' := h.mono (fun i _ (q : i = F) => .inl q)

/-- A write into the first page. -/
theorem up_write {w0 : World} {B F b base top : Nat} {vk : ViK} {N : Int} {g : List Int} {c : Co} {lv pv : Value} {w : World} (h : Up16 w0 B F b base top vk N g c lv pv w) (off : Int) (p : Option Addr) (cap : Nat) (bs : List Int) (h0 : 0 ≤ off) (h1 : off + bs.length ≤ 256) (hs : Src w p bs) :
    Calls Tryd.prog 17 #[.pointer (some ⟨B, 0, none⟩), .int .i64 0, .int .i64 off, .slice p bs.length cap] w fun e w' => e = .returned (.int .i64 0) ∧ Up16 w0 B F b base top vk N (splice g off.toNat bs) c lv pv w' := by
  obtain ⟨e1, e2⟩ := wr_pg1 (g := g) h0 h1
  refine (pwrite_any 0 off p cap bs w h.cw.p hs).mono ?_
  rintro e w' ⟨rfl, hm, hp⟩
  rw [e1] at hp
  exact ⟨by rw [e2], h.step (p3_one hm) (h.cw.wrote hm hp).1⟩

/-- A read of the first page. -/
theorem up_read {w0 : World} {B F b base top : Nat} {vk : ViK} {N : Int} {g : List Int} {c : Co} {lv pv : Value} {w : World} (h : Up16 w0 B F b base top vk N g c lv pv w) (off n : Nat) (xs : List Int) (h1 : off + n ≤ 256) (hx : (g.drop off).take n = xs) :
    Calls Tryd.prog 16 #[.pointer (some ⟨B, 0, none⟩), .int .i64 0, .int .i64 off, .int .i64 n] w fun e w' => e = .returned (.tuple #[.slice (some ⟨w.heap.size, 0, none⟩) n n, .int .i64 0]) ∧ Mod No w w' ∧ w'.heap[w.heap.size]? = some (.cells (xs.map (Value.int .u8)).toArray 5 (0, 0)) := by
  have := read_in 0 off n { own1Fr with bytes := g } w h.cw.p ⟨⟨by omega, by simp [pg1]⟩, by omega, by omega, by omega⟩ rfl
  refine this.mono ?_
  rintro e w' ⟨rfl, h2, _, h3⟩
  rw [show ((off : Nat) : Int).toNat = off from rfl, show ((n : Nat) : Int).toNat = n from rfl, hx] at h3
  exact ⟨rfl, h2, h3⟩

/-- A feed. -/
theorem up_feed {w0 : World} {B F b base top : Nat} {vk : ViK} {N : Int} {g : List Int} {put : Nat} {om : Int} {lv pv : Value} {w : World} (h : Up16 w0 B F b base top vk N g ⟨0, om, ((put % 65536 : Nat) : Int)⟩ lv pv w) (ix : Int) (hix : word2 ((g.drop 4).take 2) = ix) (hN : 0 ≤ N ∧ N < 4611686018427387904)
    (q : Option Addr) (bs : List Int) (cap : Nat) (hb : Byt w q bs cap) (hq : 0 < bs.length → ∀ bq off, q = some ⟨bq, off, none⟩ → bq ≠ F ∧ bq ≠ vk.V ∧ bq ≠ b) (n : Nat) (hn : (n : Int) = min (bs.length : Int) (roomR ((put % 65536 : Nat) : Int) ix)) :
    Calls Tryd.prog 15 #[.pointer (some ⟨b, 0, none⟩), .pointer (some ⟨vk.V, 0, none⟩), .slice q bs.length cap] w fun e w' => e = .returned (.tuple #[.int .i64 n, .int .i64 0]) ∧ Up16 w0 B F b base top vk (N + 1) (fedB g put (bs.take n)) ⟨0, om, (((put + n) % 65536 : Nat) : Int)⟩ lv pv w' := by
  have hnl : (bs.take n).length = n := by rw [List.length_take]; unfold roomR at hn; omega
  have e0 : pokes (dueAt ([] : List Pk) N) (pg1 g) = pg1 g := rfl
  have e1 := feedGo_pg om (bs.take n) g ((put % 65536 : Nat) : Int) (by omega)
  have h2 := feed_ok { own1Fr with bytes := g } q bs cap w h.cw hN (by simp) ⟨⟨by simp only; omega, by simp [pg1]⟩, by omega, by omega, by omega⟩ (by rw [e0]; rfl) hb hq n (by
    show _ = min (bs.length : Int) (roomR ((put % 65536 : Nat) : Int) (word2 ((g.drop 4).take 2)))
    rw [hix]; exact hn)
  rw [e0, e1, hnl] at h2
  refine h2.mono ?_
  rintro e w' ⟨rfl, hc, hm⟩
  have e3 : ((put % 65536 : Nat) : Int) + (n : Int) = ((put % 65536 + n : Nat) : Int) := by omega
  have e4 : (((put % 65536 : Nat) : Int) + (n : Int)) % 65536 = (((put + n) % 65536 : Nat) : Int) := by omega
  simp only at hc
  rw [e4, (wr_pg1 (by omega) (by simp [twoB])).1] at hc
  have e5 : fedB g put (bs.take n) = splice (feedB g ((put % 65536 : Nat) : Int) (bs.take n)) 6 (twoB (((put + n) % 65536 : Nat) : Int)) := by unfold fedB; rw [hnl]
  rw [e5]
  exact ⟨rfl, h.step hm hc⟩

theorem fed0 : Fed own1Fr.bytes 0 := ⟨by simp [own1Fr, freeFr], rfl⟩

set_option maxHeartbeats 16000000 in
theorem feeds_any (q0 : Option Addr) (cap0 : Nat) (ps : List BBy) (ho : Int) (w : World) (hp : BBs w q0 ps) (hlen : ps.length * 24 ≤ 140737488355328) (hh : 0 ≤ ho ∧ ho ≤ 65535) (hT : Lib.Utf8Tabs 0 1 w) :
    Calls Tryd.prog 5 #[.slice q0 ps.length cap0, .int .u16 ho] w fun e w' => e = .returned (.bool true) ∧ Mod No w w' := by
  have HP := Lib.hid hp
  have HT := Lib.hid hT
  clear hp hT
  go_enter Tryd.func5, Tryd.ntmps5
  go_wp2_with fail
  refine (begin16_any w).mono ?_
  rintro e w1 ⟨B, F, K, rfl, hrd, hB⟩
  have HRD := Lib.hid hrd
  clear hrd hB
  go_wp2_with fail
  refine (cnew0 w1).mono ?_
  rintro e w2 ⟨rfl, hm2, hco2, hb2⟩
  have hP2 := HRD.out.two.p.kept hm2 (fun q => q) (fun q => q)
  have HV := Lib.hid (vnew_in none [] 0 w2 hP2 ⟨by simp, by simp⟩ (by simp))
  have HM2 := Lib.hid hm2
  have HCO2 := Lib.hid hco2
  have HB2 := Lib.hid hb2
  have HP2 := Lib.hid hP2
  clear hm2 hco2 hb2 hP2
  go_wp2_with fail
  refine HV.out.mono ?_
  rintro e w3 ⟨vk, rfl, hm3, hv3⟩
  have hup : Up16 w B F w1.heap.size w2.heap.size w3.heap.size vk 0 own1Fr.bytes ⟨0, 0, (((0 : Nat) % 65536 : Nat) : Int)⟩ (.slice none 0 0) (.slice none 0 0) w3 := by
    have hF := HRD.out.F
    have hs1 := HRD.out.mod.size
    have hF1 := HRD.out.two.p.ltF
    have hs2 := HB2.out
    have hr := hv3.d.rng
    exact ⟨⟨HP2.out.kept hm3 (fun q => q) (fun q => q), hv3, HCO2.out.no hm3, ⟨by simp, by simp⟩, by omega, .inl hs2⟩, HRD.out.mod.trans (HM2.out.trans hm3), by omega, by omega, by omega⟩
  have HUP := Lib.hid hup
  generalize w1.heap.size = b at HUP ⊢
  generalize w2.heap.size = base at HUP ⊢
  generalize w3.heap.size = top at HUP ⊢
  go_wp2_with fail
  go_loopw [12, 13] (fun vp vi wx => ∃ (i put : Nat) (g : List Int), vp = .int .i64 put ∧ vi = .int .i64 i ∧ i ≤ ps.length ∧ put ≤ 64 * i ∧ Up16 w B F b base top vk i g ⟨0, 0, ((put % 65536 : Nat) : Int)⟩ (.slice none 0 0) (.slice none 0 0) wx ∧ Fed g put) (fun _ vi _ => ps.length - (intOf vi).toNat)
  case atStart => exact ⟨0, 0, own1Fr.bytes, rfl, rfl, by omega, by omega, HUP.out, fed0⟩
  case round =>
    obtain ⟨i, put, g, rfl, rfl, hi, hput, hup, hfed⟩ := hrel
    by_cases hlt : i < ps.length
    · obtain ⟨pq, po, rfl, hpb, hpc⟩ := HP.out.at_ (by omega)
      obtain ⟨o, hoi⟩ : ∃ o, ps[i]? = some o := ⟨_, List.getElem?_eq_getElem hlt⟩
      have hby := HP.out.ok o (List.mem_of_getElem? hoi)
      have hpi := hpc i o hoi
      obtain ⟨bq, bs, bc⟩ := o
      dsimp only [BBy.val] at hby hpi
      have HCELL : Hid (∀ w', Mod No w w' → w'.cell? ⟨pq, po + i, none⟩ = some (.slice bq bs.length bc)) := fun w' hm => (World.cell?_of_block (w := w) (hm.block pq hpb (fun q => q))).trans hpi
      have c1 := HCELL.out wr hup.mod
      obtain ⟨n, hn⟩ : ∃ n : Nat, n = min bs.length 64 := ⟨_, rfl⟩
      have hn2 : min (bs.length : Int) 64 = (n : Int) := by omega
      have hnb : n ≤ bs.length ∧ n ≤ 64 := by omega
      have hfit2 := hby.fit
      have hlen2 := hby.len
      have hnew := hup.new
      have HF := Lib.hid (up_feed hup ((put % 65536 : Nat) : Int) (by rw [hfed.took]; exact word2_twoB) (by omega) bq bs bc (hby.kept hup.mod) (fun h0 b2 o2 e => by
        obtain ⟨b3, o3, e3, hb3, _⟩ := hby.at_ h0
        rw [e] at e3
        cases e3
        omega) n (by unfold roomR; omega))
      have HBY := Lib.hid hby
      have HSZ := Lib.hid hfed.size
      clear hup hfed hpc hby hpi hoi hn
      have hi0 : (0 : Int) ≤ i := by omega
      have hi1 : (i : Int) < ps.length := by omega
      go_wp2_with (go_at_call 15; refine HF.out.mono ?_; rintro e w4 ⟨rfl, hup4⟩; have c4 := HCELL.out w4 hup4.mod; have HUP4 := Lib.hid hup4; clear hup4)
      clear c1 HF
      have hPd : ∃ P : Nat, P = (put + n) % 65536 := ⟨_, rfl⟩
      obtain ⟨P, hPe⟩ := hPd
      have hP2 : P < 65536 := by omega
      rw [← hPe] at HUP4
      go_loopw [12, 16] (fun vp vz wx => ∃ (k p : Nat), vp = .int .i64 p ∧ vz = .int .i64 k ∧ k ≤ n ∧ p = put + k ∧ Up16 w B F b base top vk (i + 1) (fedB g put (bs.take n)) ⟨0, 0, (P : Int)⟩ (.slice none 0 0) (.slice none 0 0) wx) (fun _ vz _ => n - (intOf vz).toNat)
      case atStart => exact ⟨0, put, rfl, rfl, by omega, rfl, HUP4.out⟩
      case round =>
        obtain ⟨k, p, rfl, rfl, hk, hpk, hup5⟩ := hrel
        by_cases hkn : k < n
        · have hkn2 : (k : Int) < n := by omega
          obtain ⟨x, hx⟩ : ∃ x, bs[k]? = some x := ⟨_, List.getElem?_eq_getElem (by omega)⟩
          obtain ⟨b6, o6, rfl, hb6, hc6⟩ := HBY.out.at_ (by omega)
          have hxc := hc6 k x hx
          have HXC : Hid (∀ w', Mod No w w' → w'.cell? ⟨b6, o6 + k, none⟩ = some (.int .u8 x)) := fun w' hm => (World.cell?_of_block (w := w) (hm.block b6 hb6 (fun q => q))).trans hxc
          have hat := fedB_at (put := put) HSZ.out (xs := bs.take n) (by rw [List.length_take]; omega) (j := k) (x := x) (by rw [List.getElem?_take_of_lt hkn]; exact hx)
          rw [← hpk] at hat
          have hr5 := up_read hup5 (160 + p % 64) 1 [x] (by omega) hat
          rw [show ((160 + p % 64 : Nat) : Int) = 160 + (p : Int) % 64 by omega, show ((1 : Nat) : Int) = 1 from rfl] at hr5
          have HR := Lib.hid hr5
          have HUP5 := Lib.hid hup5
          have HPK := Lib.hid hpk
          have p0 : (0 : Int) ≤ (p : Int) := by omega
          have k0 : (0 : Int) ≤ (k : Int) := by omega
          have k1 : (k : Int) < bs.length := by omega
          have k2 : k < bs.length := by omega
          have k3 : IntKind.i64.wrap ((k : Int) + 1) = (k : Int) + 1 := IntWalk.i64_in _ (by omega)
          have k4 : IntKind.i64.wrap ((p : Int) + 1) = (p : Int) + 1 := IntWalk.i64_in _ (by omega)
          clear hup5 hx hc6 hxc hat hpk hr5
          go_upto_region 19 with (go_at_call 16; refine HR.out.mono ?_; rintro e w5 ⟨rfl, hm5, hrow5⟩)
          have hup6 := HUP5.out.no hm5
          have d1 : w5.cell? ⟨wr.heap.size, 0, none⟩ = some (.int .u8 x) := row_cell hrow5 0
          have d2 := HCELL.out w5 hup6.mod
          have d3 := HXC.out w5 hup6.mod
          have HUP6 := Lib.hid hup6
          clear hup6 hm5 hrow5
          go_quiet (fail)
          go_wp2_with fail
          exact ⟨⟨k + 1, p + 1, by first | trivial | rfl, by first | trivial | go_num, by omega, by have := HPK.out; omega, HUP6.out.no ((Mod.refl No w5).drewN nq)⟩, by simp [intOf]; omega⟩
        · obtain rfl : k = n := by omega
          have hkn2 : ¬ (k : Int) < (k : Int) := by omega
          have HPK := Lib.hid hpk
          have hr5 := up_read hup5 6 2 (twoB (P : Int)) (by omega) (by
            have h6 := fedB_six (put := put) HSZ.out (bs.take k)
            have h7 : (bs.take k).length = k := by rw [List.length_take]; omega
            rw [h7, ← hPe] at h6
            exact h6)
          rw [show ((6 : Nat) : Int) = 6 from rfl, show ((2 : Nat) : Int) = 2 from rfl] at hr5
          have HR := Lib.hid hr5
          have HUP5 := Lib.hid hup5
          have p0 : (0 : Int) ≤ (p : Int) := by omega
          have f1 : IntKind.i64.wrap (256 * ((P : Int) / 256)) = 256 * ((P : Int) / 256) := IntWalk.i64_in _ (by omega)
          have f2 : IntKind.i64.wrap ((P : Int) % 256 + 256 * ((P : Int) / 256)) = (P : Int) % 256 + 256 * ((P : Int) / 256) := IntWalk.i64_in _ (by omega)
          have f3 : (P : Int) % 256 + 256 * ((P : Int) / 256) = (p : Int) % 65536 := by omega
          clear hup5 hr5 hpk
          go_upto_region 23 with (go_at_call 16; refine HR.out.mono ?_; rintro e w5 ⟨rfl, hm5, hrow5⟩)
          have hup6 := HUP5.out.no hm5
          have d1 : w5.cell? ⟨wr.heap.size, 0, none⟩ = some (.int .u8 ((P : Int) % 256)) := row_cell hrow5 0
          have d2 : w5.cell? ⟨wr.heap.size, 1, none⟩ = some (.int .u8 ((P : Int) / 256)) := row_cell hrow5 1
          have HUP6 := Lib.hid hup6
          have HROW := Lib.hid hrow5
          clear hup6 hm5 hrow5
          go_quiet (fail)
          have hup7 := HUP6.out.no ((Mod.refl No w5).drewN nq)
          have HW := Lib.hid (up_write hup7 4 (some ⟨wr.heap.size, 0, none⟩) 2 (twoB (P : Int)) (by omega) (by simp [twoB]) (Src.row (w := w5.drewN nq) HROW.out (twoB_range ⟨by omega, by omega⟩)))
          clear hup7 d1 d2
          have g9 : IntKind.i64.wrap ((i : Int) + 1) = (i : Int) + 1 := IntWalk.i64_in _ (by omega)
          go_wp2_with (go_at_call 17; refine HW.out.mono ?_; rintro e w8 ⟨rfl, hup8⟩)
          have hpp : p % 65536 = P := by have := HPK.out; omega
          refine ⟨⟨i + 1, p, splice (fedB g put (bs.take k)) 4 (twoB (P : Int)), by first | trivial | rfl, by first | trivial | go_num, by omega, by have := HPK.out; omega, ?_, ?_⟩, by simp [intOf]; omega⟩
          · rw [hpp]; exact hup8
          · have := Fed.next (fedB_size (put := put) HSZ.out (bs.take k)) p
            rwa [hpp] at this
    · obtain rfl : i = ps.length := by omega
      have hni : ¬ (ps.length : Int) < (ps.length : Int) := by omega
      have HUPL := Lib.hid hup
      have HFED := Lib.hid hfed
      clear hup hfed
      have q1 : IntKind.u8.wrap (ho % 256) = ho % 256 := IntWalk.u8_in _ (by omega)
      have q2 : IntKind.u16.wrap (ho.tdiv 256) % 256 = ho / 256 := by rw [Int.tdiv_eq_ediv_of_nonneg hh.1, IntWalk.u16_in _ (by omega)]; omega
      have hup1 := HUPL.out.no ((Mod.refl No wr).alloc (.cells #[.int .u8 (ho % 256), .int .u8 (ho / 256)] 5))
      have HW := Lib.hid (up_write hup1 4 (some ⟨wr.heap.size, 0, none⟩) 2 (twoB ho) (by omega) (by simp [twoB]) (Src.row (heap_alloc_new wr _) (twoB_range hh)))
      clear hup1
      obtain ⟨i0, hi9, hz0, hz1, hz2⟩ := info_parts Tryd.infoU8
      have hmk : ∀ u : World, (Instr.makeSlice 22 (.int .i64 300) (.int .i64 300)).run Tryd.prog u = .ok (.slice (some ⟨u.heap.size, 0, none⟩) 300 300) (u.alloc (.cells (madeCells #[.int .u8 0] 300) 5)) := fun u => by
        have h := run_make (P := Tryd.prog) u 22 5 i0 (.int .u8 0) Tryd.underlying22 hi9 hz0 .i64 .i64 300 300 (by omega) (Int.le_refl _) (by rw [hz2]; omega) (by omega)
        simpa [hz1, Value.cells] using h
      obtain ⟨dd, hdd⟩ : ∃ dd : Int, dd = (((put % 65536 : Nat) : Int) - ho) % 65536 := ⟨_, rfl⟩
      have hd0 : 0 ≤ dd := by omega
      have hd1 : dd ≤ 65535 := by omega
      have q3 : IntKind.u16.wrap (put : Int) = (put : Int) % 65536 := rfl
      have q4 : IntKind.u16.wrap ((put : Int) % 65536 - ho) = dd := by rw [hdd, show ((put % 65536 : Nat) : Int) = (put : Int) % 65536 by omega]; rfl
      have HDD := Lib.hid hdd
      clear hdd
      obtain ⟨n, hn⟩ : ∃ n : Nat, (n : Int) = max 0 (64 - dd) := ⟨(max 0 (64 - dd)).toNat, by omega⟩
      have HAW : Hid (∀ w', Mod No w w' → Calls Tryd.prog 11 #[] w' fun e w2 => e = .returned (.bool true) ∧ Mod No w' w2) := fun w' hm => awake16_yes w' (Utf8Tabs_below HT.out hm.no_below)
      go_upto_region 27 with (go_at_call 17; refine HW.out.mono ?_; rintro e w4 ⟨rfl, hup4⟩)
      have HF : Hid (∀ w', w' = w4.alloc (.cells (madeCells #[.int .u8 0] 300) 5) → Calls Tryd.prog 15 #[.pointer (some ⟨b, 0, none⟩), .pointer (some ⟨vk.V, 0, none⟩), .slice (some ⟨w4.heap.size, 0, none⟩) 300 300] w' fun e w5 => e = .returned (.tuple #[.int .i64 n, .int .i64 0]) ∧ Mod No w w5) := fun w' hw' => by
        subst hw'
        have hup5 := hup4.no ((Mod.refl No w4).alloc (.cells (madeCells #[.int .u8 0] 300) 5))
        have hrow : (w4.alloc (.cells (madeCells #[.int .u8 0] 300) 5)).heap[w4.heap.size]? = some (.cells ((List.replicate 300 (0 : Int)).map (Value.int .u8)).toArray 5 (0, 0)) := by
          rw [made_one, List.map_replicate]; exact heap_alloc_new w4 _
        have hnew := hup5.new
        have hF4 := hup4.cw.p.ltF
        have hb4 := lt_of_blk hup4.cw.co
        have hv4 := lt_of_blk hup4.cw.v.head
        have hs4 := splice_mid (l := g) (bs := twoB ho) (o := 4) HFED.out.size (by simp [twoB])
        have h := up_feed hup5 ho (by
          show word2 (((splice g 4 (twoB ho)).drop 4).take 2) = ho
          rw [show (twoB ho).length = 2 from rfl] at hs4
          rw [hs4]; exact word2_twoB) (by omega) (some ⟨w4.heap.size, 0, none⟩) (List.replicate 300 0) 300 ⟨fun x hx => by rw [(List.mem_replicate.1 hx).2]; omega, by simp, by simp, (fun e => by cases e), fun _ => ⟨_, _, rfl, by simp, fun j x hj => by
            rw [Nat.zero_add, row_cell hrow, List.getElem?_map, hj]; rfl⟩⟩ (fun _ b2 o2 e => by cases e; omega) n (by unfold roomR; rw [← HDD.out, List.length_replicate]; omega)
        rw [List.length_replicate] at h
        exact h.mono fun e w5 r => ⟨r.1, r.2.mod⟩
      clear hup4
      have q5 : wrap64 dd = dd := by unfold wrap64; omega
      by_cases hbig : 64 < dd
      · have hn0 : (n : Int) = 0 := by omega
        clear hn
        go_wp2_with (first
          | (go_at_call 15; refine (HF.out _ rfl).mono ?_; rintro e w5 ⟨rfl, hm5⟩; have HM5 := Lib.hid hm5; clear hm5)
          | (go_at_call 11; refine (HAW.out _ HM5.out).mono ?_; rintro e w6 ⟨rfl, h6⟩))
        go_ret
        exact ⟨rfl, HM5.out.trans h6⟩
      · have hn0 : (n : Int) = 64 - dd := by omega
        have q6 : wrap64 (64 - dd) = 64 - dd := by unfold wrap64; omega
        clear hn
        go_wp2_with (first
          | (go_at_call 15; refine (HF.out _ rfl).mono ?_; rintro e w5 ⟨rfl, hm5⟩; have HM5 := Lib.hid hm5; clear hm5)
          | (go_at_call 11; refine (HAW.out _ HM5.out).mono ?_; rintro e w6 ⟨rfl, h6⟩))
        go_ret
        exact ⟨rfl, HM5.out.trans h6⟩

end Go.Proofs.YtmdeljacbekbpaaDoor

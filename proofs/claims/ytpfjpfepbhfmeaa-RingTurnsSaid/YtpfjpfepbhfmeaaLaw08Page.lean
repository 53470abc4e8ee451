/- tenementlaw08.RingTurns: what stands in the page. -/
import Derived.Test.YtpfjpfepbhfmeaaRingFront
namespace Go.Proofs.Ytpfjpfepbhfmeaa
open Go.RowKit
set_option maxRecDepth 100000

theorem splice_get {l bs : List Int} {o : Nat} (h : o + bs.length ≤ l.length) (i : Nat) : (splice l o bs)[i]? = if i < o then l[i]? else if i < o + bs.length then bs[i - o]? else l[i]? := by
  unfold splice
  have hlo : (l.take o).length = o := by simp; omega
  by_cases c : i < o
  · rw [if_pos c, List.getElem?_append_left (by omega), List.getElem?_take_of_lt c]
  · rw [if_neg c, List.getElem?_append_right (by omega), hlo]
    by_cases c2 : i < o + bs.length
    · rw [if_pos c2, List.getElem?_append_left (by omega)]
    · rw [if_neg c2, List.getElem?_append_right (by omega), List.getElem?_drop]
      congr 1
      omega
/-- n bytes from a. -/
def win (g : List Int) (a n : Nat) : List Int := (g.drop a).take n
theorem win_get (g : List Int) (a n i : Nat) : (win g a n)[i]? = if i < n then g[a + i]? else none := by
  unfold win
  by_cases c : i < n
  · rw [if_pos c, List.getElem?_take_of_lt c, List.getElem?_drop]
  · rw [if_neg c, List.getElem?_eq_none]
    simp
    omega
theorem win_same {g bs : List Int} {o n : Nat} (h : o + bs.length ≤ g.length) (hn : bs.length = n) : win (splice g o bs) o n = bs := by
  apply List.ext_getElem?
  intro i
  rw [win_get]
  by_cases c : i < n
  · rw [if_pos c, splice_get h, if_neg (by omega), if_pos (by omega), Nat.add_sub_cancel_left]
  · rw [if_neg c, List.getElem?_eq_none (by omega)]
theorem win_ne {g bs : List Int} {o a n : Nat} (h : o + bs.length ≤ g.length) (hd : a + n ≤ o ∨ o + bs.length ≤ a) : win (splice g o bs) a n = win g a n := by
  apply List.ext_getElem?
  intro i
  rw [win_get, win_get]
  by_cases c : i < n
  · rw [if_pos c, if_pos c, splice_get h]
    rcases hd with hd | hd
    · rw [if_pos (by omega)]
    · rw [if_neg (by omega), if_neg (by omega)]
  · rw [if_neg c, if_neg c]

/-- The page of a ring: put requests, done of them answered, got answers read. -/
structure PgT (g : List Int) (put don got : Nat) : Prop where
  len : g.length = 256
  a : win g 0 2 = twoB ((put : Int) % 65536)
  b : win g 2 2 = twoB ((don : Int) % 65536)
  q : ∀ n, don ≤ n → n < put → win g (16 + 16 * (n % 8)) 16 = slotB 16 ((n : Int) % 256)
  r : ∀ n, got ≤ n → n < don → win g (144 + 8 * (n % 8)) 8 = slotB 8 ((n : Int) % 256)
  ord : got ≤ don ∧ don ≤ put ∧ put ≤ got + 8

theorem PgT.put {g : List Int} {put don got : Nat} (h : PgT g put don got) (hp : put < got + 8) :
    PgT (splice (splice g (16 + 16 * (put % 8)) (slotB 16 ((put : Int) % 256))) 0 (twoB (((put + 1 : Nat) : Int) % 65536))) (put + 1) don got := by
  have hl := h.len
  have ho := h.ord
  have h1 : (slotB 16 ((put : Int) % 256)).length = 16 := slotB_len _ _
  have h2 : (twoB (((put + 1 : Nat) : Int) % 65536)).length = 2 := rfl
  have l1 : (splice g (16 + 16 * (put % 8)) (slotB 16 ((put : Int) % 256))).length = 256 := by rw [length_splice _ _ _ (by omega), hl]
  refine ⟨by rw [length_splice _ _ _ (by omega), l1], win_same (by omega) h2, ?_, fun n hn hn2 => ?_, fun n hn hn2 => ?_, by omega⟩
  · rw [win_ne (by omega) (by omega), win_ne (by omega) (by omega)]; exact h.b
  · rw [win_ne (by omega) (by omega)]
    by_cases c : n = put
    · subst c; exact win_same (by omega) h1
    · rw [win_ne (by omega) (by omega)]; exact h.q n hn (by omega)
  · rw [win_ne (by omega) (by omega), win_ne (by omega) (by omega)]; exact h.r n hn hn2
theorem PgT.ans {g : List Int} {put don got : Nat} (h : PgT g put don got) (hp : don < put) :
    PgT (splice (splice g (144 + 8 * (don % 8)) (slotB 8 ((don : Int) % 256))) 2 (twoB (((don + 1 : Nat) : Int) % 65536))) put (don + 1) got := by
  have hl := h.len
  have ho := h.ord
  have h1 : (slotB 8 ((don : Int) % 256)).length = 8 := slotB_len _ _
  have h2 : (twoB (((don + 1 : Nat) : Int) % 65536)).length = 2 := rfl
  have l1 : (splice g (144 + 8 * (don % 8)) (slotB 8 ((don : Int) % 256))).length = 256 := by rw [length_splice _ _ _ (by omega), hl]
  refine ⟨by rw [length_splice _ _ _ (by omega), l1], ?_, win_same (by omega) h2, fun n hn hn2 => ?_, fun n hn hn2 => ?_, by omega⟩
  · rw [win_ne (by omega) (by omega), win_ne (by omega) (by omega)]; exact h.a
  · rw [win_ne (by omega) (by omega), win_ne (by omega) (by omega)]; exact h.q n (by omega) hn2
  · rw [win_ne (by omega) (by omega)]
    by_cases c : n = don
    · subst c; exact win_same (by omega) h1
    · rw [win_ne (by omega) (by omega)]; exact h.r n hn (by omega)
theorem PgT.get {g : List Int} {put don got : Nat} (h : PgT g put don got) (hp : got < don) : PgT g put don (got + 1) :=
  ⟨h.len, h.a, h.b, h.q, fun n hn hn2 => h.r n (by omega) hn2, by have := h.ord; omega⟩
theorem word_two {n : Int} : word2 (twoB n) = n := by
  show n % 256 + 256 * (n / 256) = n
  omega

/-- All that stands in memory between two steps of RingTurns. -/
structure TV (w0 : World) (B F b f base top : Nat) (vk : ViK) (g : List Int) (put don got : Nat) (N s : Int) (w : World) : Prop where
  cv : CV B F b base top vk N [] (pgF g) ⟨0, (don : Int) % 65536, (don : Int) % 65536, s⟩ w
  fr : FrM w f B ((put : Int) % 65536) ((got : Int) % 65536)
  mod : Mod No w0 w
  lo : w0.heap.size ≤ F ∧ w0.heap.size ≤ b ∧ w0.heap.size ≤ base ∧ w0.heap.size ≤ f ∧ top ≤ f ∧ b ≠ f
  pg : PgT g put don got
theorem TV.no {w0 w w' : World} {B F b f base top : Nat} {vk : ViK} {g : List Int} {put don got : Nat} {N s : Int} (h : TV w0 B F b f base top vk g put don got N s w) (hm : Mod No w w') : TV w0 B F b f base top vk g put don got N s w' :=
  ⟨h.cv.no hm, h.fr.no hm, h.mod.trans hm, h.lo, h.pg⟩
theorem TV.fv {w0 w : World} {B F b f base top : Nat} {vk : ViK} {g : List Int} {put don got : Nat} {N s : Int} (h : TV w0 B F b f base top vk g put don got N s w) : FV B F f g ((put : Int) % 65536) ((got : Int) % 65536) w := ⟨h.cv.p, h.fr⟩
/-- A step of the front end. -/
theorem TV.front {w0 w w' : World} {B F b f base top : Nat} {vk : ViK} {g g' : List Int} {put put' don got got' : Nat} {N s : Int} (h : TV w0 B F b f base top vk g put don got N s w) (hm : Mod (P2 F f) w w')
    (hf : FV B F f g' ((put' : Int) % 65536) ((got' : Int) % 65536) w') (hp : PgT g' put' don got') : TV w0 B F b f base top vk g' put' don got' N s w' := by
  have hn := h.cv.neb
  have hl := h.lo
  have hs := h.cv.sep
  refine ⟨⟨hf.p, h.cv.v.kept hm (fun i hi ht q => ?_), h.cv.bk.kept hm (fun q => ?_), h.cv.ok, h.cv.sep⟩, hf.fr, h.mod.step hm (fun i hi q => ?_), h.lo, hp⟩
  · rcases q with q | q <;> omega
  · rcases q with q | q
    · exact hn.1 q
    · exact hl.2.2.2.2.2 q
  · rcases q with q | q <;> omega
/-- A step of the back end. -/
theorem TV.back {w0 w w' : World} {B F b f base top : Nat} {vk : ViK} {g g' : List Int} {put don don' got : Nat} {N N' s s' : Int} (h : TV w0 B F b f base top vk g put don got N s w) (hm : Mod (P3 F vk b) w w')
    (hc : CV B F b base top vk N' [] (pgF g') ⟨0, (don' : Int) % 65536, (don' : Int) % 65536, s'⟩ w') (hp : PgT g' put don' got) : TV w0 B F b f base top vk g' put don' got N' s' w' := by
  have hl := h.lo
  have hr := h.cv.v.d.rng
  have hne := h.fr.neF h.cv.p
  refine ⟨hc, h.fr.kept hm (fun q => ?_), h.mod.step hm (fun i hi q => ?_), h.lo, hp⟩
  · rcases q with q | q | q
    · exact hne.1 q
    · omega
    · exact hl.2.2.2.2.2 q.symm
  · rcases q with q | q | q <;> omega

theorem turn_look {g : List Int} {put don got : Nat} (h : PgT g put don got) (s : Int) :
    (⟨0, (don : Int) % 65536, (don : Int) % 65536, s⟩ : Bk).look (pgF g) = (((put : Int) - don, false, 0), ⟨0, (don : Int) % 65536, (don : Int) % 65536, (put : Int) % 65536⟩) := by
  have ho := h.ord
  rw [look_in (f := { ownFr with bytes := g }) (by simp) rfl]
  have h1 : (g.drop 0).take 2 = twoB ((put : Int) % 65536) := h.a
  have h3 : aheadR ((put : Int) % 65536) ((don : Int) % 65536) = ((put : Int) - don, false) := by
    unfold aheadR
    rw [if_neg (by omega)]
    congr 1
    omega
  simp only [h1, word_two, h3]
  congr 2
  omega

theorem turn_ans {g : List Int} {don : Nat} {x s : Int} (bs : List Int) (hb : bs.length = 8) :
    ansR (pgF g) ⟨0, x, (don : Int) % 65536, s⟩ bs = pgF (splice (splice g (144 + 8 * (don % 8)) bs) 2 (twoB (((don + 1 : Nat) : Int) % 65536))) := by
  unfold ansR Bk.aslot Bk.laid
  simp only
  rw [(wr_pg (by omega) (by omega)).1, show (144 + 8 * ((don : Int) % 65536 % 8)).toNat = 144 + 8 * (don % 8) by omega, show ((don : Int) % 65536 + 1) % 65536 = ((don + 1 : Nat) : Int) % 65536 by omega, (wr_pg (by omega) (by simp [twoB])).1]
  rfl

end Go.Proofs.Ytpfjpfepbhfmeaa

/- A bank's writer and reader. -/
import Derived.Test.YtpjdknmgegbgnaaBkL
import Derived.Test.YtpjdknmgegbgnaaWrOps
import Derived.Test.YtpjdknmgegbgnaaRdEnd
import Derived.Test.YtpjdknmgegbgnaaSumC
import Derived.Test.YtpjdknmgegbgnaaApp
namespace Go.Proofs.Ytpjdknmgegbgnaa
open Go.RowKit
set_option linter.unusedVariables false
set_option maxRecDepth 100000

theorem one_below (w : World) (o1 : Obj) : Below w.heap.size w (w.alloc o1) := (Below.refl _ _).alloc (Nat.le_refl _) _
theorem size_set (w : World) (a : Addr) (v : Value) : (w.setCell a v).heap.size = w.heap.size := by simp [World.setCell]
theorem meas_up {n j : Nat} (h : j < n) : n - (intOf (.int .i64 ((j : Int) + 1))).toNat < n - (intOf (.int .i64 (j : Int))).toNat := by simp only [intOf]; omega
theorem set_rowP {w : World} {g : Nat} {cs : Array Value} {T : TypeId} (h : w.heap[g]? = some (.cells cs T)) (k : Nat) (u : Value) : (w.setCell ⟨g, k, none⟩ u).heap[g]? = some (.cells (cs.set! k u) T) := by
  rw [setCell_eq_setRow w g k _ T (0, 0) u h, setRow_heap w g _ _ T (0, 0) h]; rfl
/-- a writer of 512 bytes that lies, its list too, outside the blocks of K -/
def WAt (K : Nat → Prop) (p : Nat) (bs : List UInt8) (w : World) : Prop := ∃ oa cap, IsW w p oa cap ⟨512, bs, 0⟩ ∧ ¬ K p ∧ ∀ k, blk oa = some k → ¬ K k
/-- what a put leaves -/
def Puts (K : Nat → Prop) (p : Nat) (bs : List UInt8) (w : World) (r : Ending) (w' : World) : Prop := r = .returned (.tuple #[]) ∧ WAt K p bs w' ∧ Chg (fun k => ¬ K k) w w'
theorem WAt.wrote {K : Nat → Prop} {p : Nat} {bs' : List UInt8} {w w' : World} {oa : Option Addr} (hB : ∀ k, K k → k < w.heap.size) (hp : ¬ K p) (ha : ∀ k, blk oa = some k → ¬ K k) (h : Wrote w p oa ⟨512, bs', 0⟩ w') : WAt K p bs' w' ∧ Chg (fun k => ¬ K k) w w' := by
  obtain ⟨oa', cap', h1, h2, h3⟩ := h
  refine ⟨⟨oa', cap', h1, hp, fun k hk => ?_⟩, h2.mono fun k _ hk => hk.elim (fun e => e ▸ hp) (ha k)⟩
  rcases h3 with h3 | ⟨j, h3, h4⟩
  · exact ha k (h3 ▸ hk)
  · rw [h3] at hk; cases hk; intro e; have := hB _ e; omega
theorem WAt.below {K : Nat → Prop} {p : Nat} {bs : List UInt8} {w w' : World} (h : WAt K p bs w) (hb : Below w.heap.size w w') : WAt K p bs w' := by
  obtain ⟨oa, cap, h1, h2⟩ := h
  exact ⟨oa, cap, h1.below hb, h2⟩
/-- one block more that is kept: a new one -/
theorem WAt.more {K : Nat → Prop} {p : Nat} {bs : List UInt8} {w : World} (h : WAt K p bs w) (o : Obj) : WAt (fun k => K k ∨ k = w.heap.size) p bs (w.alloc o) := by
  have h' := h.below (one_below w o)
  obtain ⟨oa, cap, h1, h2, h3⟩ := h
  have hp := h1.lt
  have hb := h1.2.1.lt
  exact ⟨oa, cap, h1.below (one_below w o), fun e => e.elim h2 (fun e => by omega), fun k hk e => e.elim (h3 k hk) (fun e => by have := hb k hk; omega)⟩
theorem WAt.less {K L : Nat → Prop} {p : Nat} {bs : List UInt8} {w : World} (h : WAt K p bs w) (hL : ∀ k, L k → K k) : WAt L p bs w := by
  obtain ⟨oa, cap, h1, h2, h3⟩ := h
  exact ⟨oa, cap, h1, fun e => h2 (hL _ e), fun k hk e => h3 k hk (hL _ e)⟩
theorem add512 {bs xs : List UInt8} (h : bs.length + xs.length ≤ 512) : (⟨512, bs, 0⟩ : WS).add xs = ⟨512, bs ++ xs, 0⟩ := by
  simp only [WS.add]
  rw [if_neg (by simp), if_neg (by omega)]
theorem putW8 (K : Nat → Prop) (p : Nat) (bs : List UInt8) (n : Nat) (hn : n < 256) (w : World) (hB : ∀ k, K k → k < w.heap.size) (h : WAt K p bs w) (hr : bs.length + 1 ≤ 512) :
    Calls Try.prog 47 #[.pointer (some ⟨p, 0, none⟩), .int .u8 (n : Int)] w (Puts K p (bs ++ leb 1 n) w) := by
  obtain ⟨oa, cap, h1, h2, h3⟩ := h
  refine (put_uint8 p oa cap _ n (by omega) w h1).mono ?_
  rintro _ w' ⟨rfl, h4⟩
  rw [add512 (by rw [leb_length]; exact hr)] at h4
  exact ⟨rfl, WAt.wrote hB h2 h3 h4⟩
theorem putW16 (K : Nat → Prop) (p : Nat) (bs : List UInt8) (n : Nat) (hn : n < 65536) (w : World) (hB : ∀ k, K k → k < w.heap.size) (h : WAt K p bs w) (hr : bs.length + 2 ≤ 512) :
    Calls Try.prog 50 #[.pointer (some ⟨p, 0, none⟩), .int .u16 (n : Int)] w (Puts K p (bs ++ leb 2 n) w) := by
  obtain ⟨oa, cap, h1, h2, h3⟩ := h
  refine (put_uint16 p oa cap _ n (by omega) w h1).mono ?_
  rintro _ w' ⟨rfl, h4⟩
  rw [add512 (by rw [leb_length]; exact hr)] at h4
  exact ⟨rfl, WAt.wrote hB h2 h3 h4⟩
theorem putW32 (K : Nat → Prop) (p : Nat) (bs : List UInt8) (n : Nat) (hn : n < 4294967296) (w : World) (hB : ∀ k, K k → k < w.heap.size) (h : WAt K p bs w) (hr : bs.length + 4 ≤ 512) :
    Calls Try.prog 49 #[.pointer (some ⟨p, 0, none⟩), .int .u32 (n : Int)] w (Puts K p (bs ++ leb 4 n) w) := by
  obtain ⟨oa, cap, h1, h2, h3⟩ := h
  refine (put_uint32 p oa cap _ n (by omega) w h1).mono ?_
  rintro _ w' ⟨rfl, h4⟩
  rw [add512 (by rw [leb_length]; exact hr)] at h4
  exact ⟨rfl, WAt.wrote hB h2 h3 h4⟩
theorem putW64 (K : Nat → Prop) (p : Nat) (bs : List UInt8) (n : Nat) (hn : n < 18446744073709551616) (w : World) (hB : ∀ k, K k → k < w.heap.size) (h : WAt K p bs w) (hr : bs.length + 8 ≤ 512) :
    Calls Try.prog 48 #[.pointer (some ⟨p, 0, none⟩), .int .u64 (n : Int)] w (Puts K p (bs ++ leb 8 n) w) := by
  obtain ⟨oa, cap, h1, h2, h3⟩ := h
  refine (put_uint64 p oa cap _ n (by omega) w h1).mono ?_
  rintro _ w' ⟨rfl, h4⟩
  rw [add512 (by rw [leb_length]; exact hr)] at h4
  exact ⟨rfl, WAt.wrote hB h2 h3 h4⟩
theorem fillW (K : Nat → Prop) (p : Nat) (bs : List UInt8) (w : World) (hB : ∀ k, K k → k < w.heap.size) (h : WAt K p bs w) (hr : bs.length ≤ 508) :
    Calls Try.prog 51 #[.pointer (some ⟨p, 0, none⟩), .int .i64 508] w (Puts K p (fullB bs) w) := by
  obtain ⟨oa, cap, h1, h2, h3⟩ := h
  refine (fill_any p oa cap _ 508 (by omega) w h1).mono ?_
  rintro _ w' ⟨rfl, h4⟩
  have e : (⟨512, bs, 0⟩ : WS).fill 508 = ⟨512, fullB bs, 0⟩ := by
    simp only [WS.fill]
    rw [if_neg (by omega), if_neg (by omega), add512 (by simp; omega)]
    rfl
  rw [e] at h4
  exact ⟨rfl, WAt.wrote hB h2 h3 h4⟩
/-- what Done leaves of a writer -/
def Dones (K : Nat → Prop) (p : Nat) (bs : List UInt8) (w : World) (r : Ending) (w' : World) : Prop :=
  ∃ oa cap, r = .returned (.tuple #[.slice oa bs.length cap, .int .i64 0]) ∧ OB w' oa cap bs ∧ (∀ k, blk oa = some k → w.heap.size ≤ k) ∧ WAt K p bs w' ∧ Below w.heap.size w w'
theorem doneW (K : Nat → Prop) (p : Nat) (bs : List UInt8) (w : World) (h : WAt K p bs w) :
    Calls Try.prog 52 #[.pointer (some ⟨p, 0, none⟩)] w (Dones K p bs w) := by
  have hw := h
  obtain ⟨oa, cap, h1, h2, h3⟩ := h
  refine (done_ok p oa cap _ rfl w h1).mono ?_
  rintro _ w' ⟨oa', cap', rfl, h4, h5, h6⟩
  refine ⟨oa', cap', rfl, h4, fun k hk => ?_, hw.below h6, h6⟩
  rcases h5 with h5 | h5
  · rw [h5] at hk; cases hk
  · rw [h5] at hk; cases hk; exact Nat.le_refl _
theorem kbelow {B : Nat} {w w' : World} (h : Chg (fun k => ¬ k < B) w w') (hB : B ≤ w.heap.size) : Below B w w' := h.below hB fun k hk => by omega

/-- a reader whose blocks lie from lo to hi -/
def RAt (lo hi p : Nat) (s : RS) (w : World) : Prop := ∃ a cap, IsR w p a cap s ∧ (lo ≤ p ∧ p < hi) ∧ ∀ k, blk a = some k → lo ≤ k ∧ k < hi
def Gets (lo hi p : Nat) (k : IntKind) (v : Nat) (s : RS) (w : World) (x : Ending) (w' : World) : Prop := x = .returned (.int k (v : Int)) ∧ RAt lo hi p s w' ∧ Chg (fun j => lo ≤ j ∧ j < hi) w w'
theorem RAt.chg {lo hi p : Nat} {s : RS} {w w' : World} {F : Nat → Prop} (h : RAt lo hi p s w) (hc : Chg F w w') (hF : ∀ k, F k → ¬ (lo ≤ k ∧ k < hi)) : RAt lo hi p s w' := by
  obtain ⟨a, cap, h1, h2, h3⟩ := h
  exact ⟨a, cap, h1.chg hc (fun f => hF _ f h2) (fun k hk f => hF _ f (h3 k hk)), h2, h3⟩
theorem RAt.aft {lo hi p : Nat} {s : RS} {w w' : World} {a : Option Addr} (h2 : lo ≤ p ∧ p < hi) (h3 : ∀ k, blk a = some k → lo ≤ k ∧ k < hi) (h : Aft w p a s w') : RAt lo hi p s w' ∧ Chg (fun j => lo ≤ j ∧ j < hi) w w' := by
  obtain ⟨a', cap', g1, g2, g3⟩ := h
  exact ⟨⟨a', cap', g1, h2, fun k hk => h3 k (g2 ▸ hk)⟩, g3.mono fun k _ e => e ▸ h2⟩
theorem getR8 (lo hi p : Nat) (s : RS) (w : World) (h : RAt lo hi p s w) :
    Calls Try.prog 35 #[.pointer (some ⟨p, 0, none⟩)] w (Gets lo hi p .u8 (s.get 1).1 (s.get 1).2 w) := by
  obtain ⟨a, cap, h1, h2, h3⟩ := h
  refine (get_uint8 p a cap s w h1).mono ?_
  rintro _ w' ⟨rfl, h4⟩
  exact ⟨rfl, RAt.aft h2 h3 h4⟩
theorem getR16 (lo hi p : Nat) (s : RS) (w : World) (h : RAt lo hi p s w) :
    Calls Try.prog 37 #[.pointer (some ⟨p, 0, none⟩)] w (Gets lo hi p .u16 (s.get 2).1 (s.get 2).2 w) := by
  obtain ⟨a, cap, h1, h2, h3⟩ := h
  refine (get_uint16 p a cap s w h1).mono ?_
  rintro _ w' ⟨rfl, h4⟩
  exact ⟨rfl, RAt.aft h2 h3 h4⟩
theorem getR32 (lo hi p : Nat) (s : RS) (w : World) (h : RAt lo hi p s w) :
    Calls Try.prog 32 #[.pointer (some ⟨p, 0, none⟩)] w (Gets lo hi p .u32 (s.get 4).1 (s.get 4).2 w) := by
  obtain ⟨a, cap, h1, h2, h3⟩ := h
  refine (get_uint32 p a cap s w h1).mono ?_
  rintro _ w' ⟨rfl, h4⟩
  exact ⟨rfl, RAt.aft h2 h3 h4⟩
theorem getR64 (lo hi p : Nat) (s : RS) (w : World) (h : RAt lo hi p s w) :
    Calls Try.prog 36 #[.pointer (some ⟨p, 0, none⟩)] w (Gets lo hi p .u64 (s.get 8).1 (s.get 8).2 w) := by
  obtain ⟨a, cap, h1, h2, h3⟩ := h
  refine (get_uint64 p a cap s w h1).mono ?_
  rintro _ w' ⟨rfl, h4⟩
  exact ⟨rfl, RAt.aft h2 h3 h4⟩

theorem get_lt (s : RS) (k : Nat) : (s.get k).1 < 256 ^ k := by
  unfold RS.get
  split
  · exact Nat.pow_pos (by omega)
  · split
    · exact Nat.pow_pos (by omega)
    · have := unle_lt (s.rest.take k)
      rw [List.length_take] at this
      exact Nat.lt_of_lt_of_le this (Nat.pow_le_pow_right (by omega) (by omega))
def eN : Elt := { t := 22, e := 3, size := 1, bytes := 8, z := .int .i64 0, hu := Try.underlying22, hi := by kernel_rfl, hz := rfl, h0 := by decide }
def cellsN (l : List Int) : List Value := l.map fun x => Value.int .i64 x
/-- a list of numbers that the program made -/
def ON (w : World) (oa : Option Addr) (cap : Nat) (l : List Int) : Prop := OR eN w oa cap l.length (cellsN l)
/-- an equality is answered -/
def EqA {α : Type} [DecidableEq α] (x y : α) (w : World) (e : Ending) (w' : World) : Prop := e = .returned (.bool (decide (x = y))) ∧ Below w.heap.size w w'
/-- a list of numbers that is read -/
def Nts (w : World) (a : Option Addr) (l : List Int) : Prop := l = [] ∨ ∃ b off, a = some ⟨b, off, none⟩ ∧ b < w.heap.size ∧ ∀ i, i < l.length → w.cell? ⟨b, off + i, none⟩ = some (.int .i64 (l.getD i 0))
theorem Nts.below {w w' : World} {a : Option Addr} {l : List Int} (h : Nts w a l) (hb : Below w.heap.size w w') : Nts w' a l := by
  rcases h with h | ⟨b, off, h1, h2, h3⟩
  · exact .inl h
  · exact .inr ⟨b, off, h1, Nat.lt_of_lt_of_le h2 hb.size, fun i hi => (hb.cell (p := ⟨b, off + i, none⟩) h2).trans (h3 i hi)⟩
theorem Nts.at {w : World} {a : Option Addr} {l : List Int} (h : Nts w a l) {k : Nat} (hk : k < l.length) : ∃ b off, a = some ⟨b, off, none⟩ ∧ b < w.heap.size ∧ w.cell? ⟨b, off + k, none⟩ = some (.int .i64 (l.getD k 0)) := by
  rcases h with rfl | ⟨b, off, h1, h2, h3⟩
  · simp at hk
  · exact ⟨b, off, h1, h2, h3 k hk⟩
theorem ON.nts {w : World} {oa : Option Addr} {cap : Nat} {l : List Int} (h : ON w oa cap l) : Nts w oa l := by
  rcases (OR.form h).2 with ⟨_, _, h0, _⟩ | ⟨g, rfl, hg, _⟩
  · exact .inl (List.length_eq_zero_iff.1 h0)
  · refine .inr ⟨g, 0, rfl, hg, fun i hi => ?_⟩
    have hc : (cellsN l)[i]? = some (.int .i64 (l.getD i 0)) := by
      simp [cellsN, List.getElem?_map, List.getElem?_eq_getElem hi, List.getD_eq_getElem?_getD]
    obtain ⟨g', he, hcell, _⟩ := OR.cell h hc
    cases he
    rw [Nat.zero_add]; exact hcell
def RelN (w0 : World) (xs ys : List Int) (i : Value) (wr : World) : Prop := ∃ k d : Nat, k ≤ xs.length ∧ i = .int .i64 k ∧ (∀ j, j < k → xs[j]? = ys[j]?) ∧ wr = w0.drewN d
set_option maxHeartbeats 1000000 in
theorem eqInts_any (xs ys : List Int) (a b : Option Addr) (ca cb : Nat) (w : World) (hx : Nts w a xs) (hy : Nts w b ys) (hl : xs.length ≤ 4611686018427387904) (hm : ys.length ≤ 4611686018427387904) :
    Calls Try.prog 19 #[.slice a xs.length ca, .slice b ys.length cb] w (EqA xs ys w) := by
  unfold EqA
  obtain ⟨n, hn⟩ : ∃ n, xs.length = n := ⟨_, rfl⟩
  obtain ⟨m, hmm⟩ : ∃ m, ys.length = m := ⟨_, rfl⟩
  have Hn := Lib.hid hn
  have Hm := Lib.hid hmm
  rw [hn] at hl ⊢
  rw [hmm] at hm ⊢
  by_cases hnm : n = m
  · subst hnm
    have Hx := Lib.hid hx
    have Hy := Lib.hid hy
    clear hn hmm hx hy
    go_enter Try.func19, Try.ntmps19
    go_wp2_with fail
    go_loopw [5] (fun i wr => RelN w xs ys i wr) (fun i _ => n - (intOf i).toNat)
    case atStart => exact ⟨0, 0, Nat.zero_le _, rfl, fun j hj => by omega, (World.drewN_zero _).symm⟩
    case round =>
      obtain ⟨k, d, hk, rfl, hE, hw⟩ := hrel
      rw [Hn.out] at hk
      by_cases hlt : k < n
      · obtain ⟨bx, ox, rfl, -, c0⟩ := (Hx.out.below (w' := wr) (by rw [hw]; exact below_drewN (Below.refl _ _) _)).at (k := k) (by rw [Hn.out]; exact hlt)
        obtain ⟨b2, oy, rfl, -, d0⟩ := (Hy.out.below (w' := wr) (by rw [hw]; exact below_drewN (Below.refl _ _) _)).at (k := k) (by rw [Hm.out]; exact hlt)
        have HE := Lib.hid hE
        have Hw := Lib.hid hw
        have HX := Lib.hid (show xs[k]? = some (xs.getD k 0) by rw [List.getD_eq_getElem?_getD, List.getElem?_eq_getElem (by rw [Hn.out]; exact hlt)]; rfl)
        have HY := Lib.hid (show ys[k]? = some (ys.getD k 0) by rw [List.getD_eq_getElem?_getD, List.getElem?_eq_getElem (by rw [Hm.out]; exact hlt)]; rfl)
        clear hE hw
        generalize xs.getD k 0 = u at c0 HX
        generalize ys.getD k 0 = v at d0 HY
        by_cases hq : u = v
        · subst hq
          go_wp2_with fail
          go_quiet (fail)
          go_wp2_with fail
          go_roundw
          case rel =>
            refine ⟨k + 1, d + nq, by rw [Hn.out]; omega, by go_num, fun j hj => ?_, by rw [Hw.out, World.drewN_drewN]⟩
            rcases Nat.lt_succ_iff_lt_or_eq.1 hj with h | rfl
            · exact HE.out j h
            · rw [HX.out, HY.out]
          case measure => simp [intOf]; omega
        · have hqd : (u != v) = true := by rw [bne_iff_ne]; exact hq
          have HN := Lib.hid (show decide (xs = ys) = false by
            rw [decide_eq_false_iff_not]; rintro rfl
            have := HX.out; rw [HY.out] at this; exact hq (Option.some.inj this).symm)
          go_wp2_with fail
          go_quiet (fail)
          go_wp2_with fail
          go_ret
          exact ⟨by rw [HN.out]; rfl, by rw [Hw.out]; exact below_drewN (below_drewN (Below.refl _ _) _) _⟩
      · have hqe : xs = ys := by
          apply List.ext_getElem?
          intro j
          by_cases hj : j < k
          · exact hE j hj
          · rw [List.getElem?_eq_none (by rw [Hn.out]; omega), List.getElem?_eq_none (by rw [Hm.out]; omega)]
        have HQ := Lib.hid hqe
        have Hw := Lib.hid hw
        clear hqe hE hw
        go_wp2_with fail
        go_ret
        exact ⟨by rw [decide_eq_true HQ.out]; rfl, by rw [Hw.out]; exact below_drewN (Below.refl _ _) _⟩
  · have hne : decide (xs = ys) = false := by
      rw [decide_eq_false_iff_not]; rintro rfl; exact hnm (hn.symm.trans hmm)
    have HN := Lib.hid hne
    have hd : ((n : Int) != (m : Int)) = true := by rw [bne_iff_ne]; omega
    clear hne hn hmm hx hy
    go_enter Try.func19, Try.ntmps19
    go_wp2_with fail
    go_ret
    exact ⟨by rw [HN.out]; rfl, Below.refl _ _⟩
end Go.Proofs.Ytpjdknmgegbgnaa
namespace Go.Proofs.Ytpjdknmgegbgnaa
open Go.RowKit

end Go.Proofs.Ytpjdknmgegbgnaa

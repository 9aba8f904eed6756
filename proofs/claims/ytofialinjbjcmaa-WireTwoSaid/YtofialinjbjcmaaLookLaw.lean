/- The walk of WireReads. -/
import Derived.Test.YtofialinjbjcmaaLook
namespace Go.Proofs.Ytofialinjbjcmaa
open Go.RowKit
set_option linter.unusedVariables false

theorem told1_le (k : Int) : told1 k ≤ 1 := by unfold told1; split <;> omega
/-- the two readers, newly made -/
theorem look_new {w w1 w2 : World} {bs : List UInt8} {p q : Nat} {a oq : Option Addr} {cap : Nat} (h1 : IsR w1 p a cap ⟨bs, 0⟩) (hp : w.heap.size ≤ p) (ha : ∀ k, blk a = some k → w.heap.size ≤ k) (hB1 : Below w.heap.size w w1) (h2 : IsQ w2 q oq ⟨bs, 0⟩) (hq : w1.heap.size ≤ q) (hoq : ∀ k, blk oq = some k → w1.heap.size ≤ k) (hB2 : Below w1.heap.size w1 w2) (B : Nat) (hB : B ≤ w.heap.size) (lv : Prop) :
    IsDuo (PR ⟨bs, 0⟩) (PQ ⟨bs, 0⟩) lv B (w2.alloc (.cells #[.pointer (some ⟨p, 0, none⟩), .pointer (some ⟨q, 0, none⟩), .slice none 0 0] 45)) w2.heap.size ⟨p, q, blk a, blk oq, none, 0, []⟩ := by
  have l1 := h1.lt
  have l2 := h2.lt
  have na : blk a ≠ some p := h1.2.2.2.1
  have nq : blk oq ≠ some q := by obtain ⟨_, _, _, _, _, _, h, _⟩ := h2; exact h
  have la : ∀ k, blk a = some k → k < w1.heap.size := h1.2.2.2.2.2.2.2
  have lq := h2.lt_list
  have hz := hB1.size
  have hz2 := hB2.size
  refine IsDuo.start (PR.stable _) (PQ.stable _) _ (Nat.le_trans hB (Nat.le_trans hz hz2)) ⟨a, cap, rfl, h1.below hB2⟩ ⟨oq, rfl, h2⟩ ?_ ?_
  · intro i j k hi hj
    have key : ∀ i, [some p, some q, blk a, blk oq][i]? = some (some k) → (i = 0 ∧ k = p) ∨ (i = 1 ∧ k = q) ∨ (i = 2 ∧ blk a = some k) ∨ (i = 3 ∧ blk oq = some k) := fun i h => by
      match i, h with
      | 0, h => exact .inl ⟨rfl, by simpa using h.symm⟩
      | 1, h => exact .inr (.inl ⟨rfl, by simpa using h.symm⟩)
      | 2, h => exact .inr (.inr (.inl ⟨rfl, by simpa using h⟩))
      | 3, h => exact .inr (.inr (.inr ⟨rfl, by simpa using h⟩))
      | i + 4, h => simp at h
    rcases key i hi with ⟨a1, b⟩ | ⟨a1, b⟩ | ⟨a1, b⟩ | ⟨a1, b⟩ <;> rcases key j hj with ⟨c, d⟩ | ⟨c, d⟩ | ⟨c, d⟩ | ⟨c, d⟩
    all_goals first
      | omega
      | (exfalso; subst b; first | exact na d | exact nq d | (have := la _ d; omega) | (have := hoq _ d; omega))
      | (exfalso; subst d; first | exact na b | exact nq b | (have := la _ b; omega) | (have := hoq _ b; omega))
      | (exfalso; have h3 := la _ b; have h4 := hoq _ d; omega)
      | (exfalso; have h3 := la _ d; have h4 := hoq _ b; omega)
  · intro b hb
    simp only [List.mem_cons, List.not_mem_nil, or_false, Option.some.injEq] at hb
    rcases hb with rfl | rfl | h | h
    · omega
    · omega
    · have := ha _ h.symm; have := la _ h.symm; omega
    · have := hoq _ h.symm; have := lq _ h.symm; omega

def RelLL (lv : Prop) (w0 : World) (x m0 : Nat) (i : Value) (wr : World) : Prop := ∃ (j : Nat) (s : RS) (d : Duo), j ≤ 300 ∧ i = .int .i64 j ∧ IsDuo (PR s) (PQ s) lv w0.heap.size wr x d ∧ d.es.length ≤ j ∧ s.rest.length ≤ m0 ∧ Below w0.heap.size w0 wr
/-- the loop in which the bytes are written over -/
def RelLI (w0 W : World) (g n : Nat) (c0 : List Value) (x : Nat) (bs : List UInt8) (d : Duo) (i : Value) (wr : World) : Prop := RelInv g n c0 W i wr

set_option maxRecDepth 100000 in
set_option maxHeartbeats 4000000 in
theorem wireReads_all (bs : List UInt8) (b : Option Addr) (cb : Nat) (hbl : bs.length ≤ 140737488351232) (os : List Op2) (a : Option Addr) (len m cap : Nat) (w : World) (hb : Bts w b bs) (hom : os.length = m) (ho : OpsAt w.heap.size w a os) (hm : m ≤ 300) (hmc : m ≤ cap) (hmin : (if (300 : Int) < (len : Int) then (300 : Int) else (len : Int)) = (m : Int)) :
    Calls Try.prog 5 #[.slice b bs.length cb, .slice a len cap] w fun e w' => e = .returned (.bool true) ∧ Below w.heap.size w w' := by
  have HS := Lib.hid (spare_any b cb bs (by omega) w hb)
  have Hb := Lib.hid hb
  have Hom := Lib.hid hom
  have Ho := Lib.hid ho
  clear hom ho hb
  go_enter Try.func5, Try.ntmps5
  go_wp2_with fail
  clear hmin
  refine HS.out.mono ?_
  rintro _ w1 ⟨rfl, hSp, hB1⟩
  have HN := Lib.hid (newReader_any (some ⟨w.heap.size, 0, none⟩) (bs.length + 64) bs w1 hSp.bts (fun e => by cases e) (by omega))
  have HSp := Lib.hid hSp
  have HB1 := Lib.hid hB1
  have hgl : w.heap.size < w1.heap.size := OB.lt hSp _ rfl
  clear hSp hB1
  go_wp2_with fail
  refine HN.out.mono ?_
  rintro _ w2 ⟨p, ar, cr, rfl, hR, hp, har, hB2⟩
  have HQ := Lib.hid (qnew_any b cb bs w2 ((Hb.out.below HB1.out).below hB2) (by omega))
  have HR := Lib.hid hR
  have Har := Lib.hid har
  have HB2 := Lib.hid hB2
  have Hp := Lib.hid hp
  clear hR har hB2 hp
  go_wp2_with fail
  refine HQ.out.mono ?_
  rintro _ w3 ⟨q, oq, rfl, hQ, hq, hoq, hB3⟩
  have HD := Lib.hid (look_new HR.out Hp.out Har.out HB2.out hQ hq hoq hB3 w1.heap.size (Nat.le_refl _) True)
  have hBx : Below w1.heap.size w1 (w3.alloc (.cells #[.pointer (some ⟨p, 0, none⟩), .pointer (some ⟨q, 0, none⟩), .slice none 0 0] 45)) := (HB2.out.trans (hB3.mono HB2.out.size)).alloc (HB2.out.trans (hB3.mono HB2.out.size)).size _
  have HBx := Lib.hid hBx
  have Hsp3 := Lib.hid (HSp.out.below hBx)
  have HK := Lib.hid (kept_any w.heap.size b cb bs (by omega) _ Hsp3.out ((Hb.out.below HB1.out).below hBx))
  clear hQ hq hoq hB3 hBx
  go_wp2_with fail
  generalize w3.alloc (.cells #[.pointer (some ⟨p, 0, none⟩), .pointer (some ⟨q, 0, none⟩), .slice none 0 0] 45) = W3 at HD HBx Hsp3 HK ⊢
  generalize w3.heap.size = x at HD ⊢
  refine HK.out.mono ?_
  rintro _ w4 ⟨rfl, hB4⟩
  have HD4 := Lib.hid (HD.out.below (PR.stable _) (PQ.stable _) hB4)
  have HS4 := Lib.hid (Hsp3.out.below hB4)
  have HB4 := Lib.hid (HBx.out.trans (hB4.mono HBx.out.size))
  clear hB4
  go_wp2_with fail
  go_loopw [7] (fun i wr => RelInv w.heap.size bs.length (cellsB (full bs)) w4 i wr) (fun i _ => bs.length - (intOf i).toNat)
  case atStart => exact ⟨0, [], Nat.zero_le _, rfl, rfl, by rw [List.nil_append, List.drop_zero]; exact HS4.out.or, Chg.refl _ _⟩
  case round =>
    obtain ⟨k, ws, hk, rfl, hwl, hO, hC⟩ := hrel
    by_cases hlt : k < bs.length
    · obtain ⟨u, hu, h1, h2⟩ := relInv_cell hO hwl hlt
      have HN := Lib.hid fun (v : Value) (i : Value) => relInv_next (v := v) (i := i) hO hwl hlt hC
      clear hO hC hwl
      go_wp2_with fail
      go_roundw
      case rel => exact HN.out _ _ (by go_num)
      case measure => simp [intOf]; omega
    · have hD5 := HD4.out.chg (PR.stable _) (PQ.stable _) hC fun b hb e => by have := (HD4.out.lt hb).1; omega
      -- what was handed in lies ahead of all that is new
      have hD5' : IsDuo (PR ⟨bs, 0⟩) (PQ ⟨bs, 0⟩) True w.heap.size wr x ⟨p, q, blk ar, blk oq, none, 0, []⟩ := ⟨hD5.1, hD5.2.1, hD5.2.2.1, hD5.2.2.2.1, hD5.2.2.2.2.1, hD5.2.2.2.2.2.1, fun b hb => ⟨by have := (hD5.lt hb).1; omega, (hD5.lt hb).2⟩⟩
      have HD5 := Lib.hid hD5'
      have HB5 := Lib.hid (show Below w.heap.size w wr from (HB1.out.trans (HB4.out.mono HB1.out.size)).trans (hC.below (Nat.le_trans HB1.out.size HB4.out.size) fun k e => by omega))
      clear hO hC hwl hD5 hD5'
      go_wp2_with fail
      go_loopw [8] (fun i wr => RelLL True w x bs.length i wr) (fun i _ => m - (intOf i).toNat)
      case atStart => exact ⟨0, _, _, by omega, rfl, HD5.out, Nat.le_refl _, Nat.le_refl _, HB5.out⟩
      case round =>
        clear HD5 HB5
        obtain ⟨j, s, d, hj, rfl, hI, hn, hsl, hB⟩ := hrel
        by_cases hlt : j < m
        · obtain ⟨o, hoj⟩ : ∃ o, os[j]? = some o := ⟨_, List.getElem?_eq_getElem (by rw [Hom.out]; exact hlt)⟩
          obtain ⟨bb, off, rfl, hbb, hf, ⟨l0, l1, l2, l3⟩, hbt, hbl'⟩ := (Ho.out.below hB).at hoj
          have H := read_any w.heap.size x True s (by omega) d o wr hI hB.size (by omega)
          simp only [Op2.val] at H
          have H := Lib.hid H
          have Hl := Lib.hid fun b (h : Own d x b) => hI.lt h
          have HB := Lib.hid hB
          clear hI hB hf hbt hbl' hoj
          go_wp2_with fail
          refine H.out.mono ?_
          rintro _ w6 ⟨rfl, s6, d6, hI6, hS6, hn6, hr6⟩
          have ht := told1_le o.kind
          have HN := Lib.hid (show RelLL True w x bs.length (.int .i64 ((j + 1 : Nat) : Int)) w6 from ⟨j + 1, s6, d6, by omega, rfl, hI6, by omega, by omega, HB.out.trans (hS6.below HB.out.size fun b hb => (Hl.out b hb).1)⟩)
          clear hI6 hS6
          go_wp2_with fail
          go_roundw
          case rel => exact HN.out
          case measure => simp [intOf]; omega
        · obtain ⟨x0, x1, x2, xf⟩ := hI.cells
          have HA := Lib.hid (ApB.apart_any d.ta d.capt d.es (by omega) (fun e he => by have := (hI.2.2.2.2.1 e he).1; omega) hI.sepL wr hI.lrow (fun b hb => hI.mine_no 5 b (by rw [← hb]; rfl) (by decide)) (fun b hb => (hI.lt (Duo.mem_ta hb)).2) (fun e he => (hI.2.2.2.2.1 e he).2 trivial))
          have HI := Lib.hid hI
          have HB := Lib.hid hB
          clear hI hB
          go_wp2_with fail
          refine HA.out.mono ?_
          rintro _ w6 ⟨rfl, hC6⟩
          obtain ⟨hI6, hC6'⟩ := HI.out.aparted (PR.stable s) (PQ.stable s) hC6
          have HB6 := Lib.hid (HB.out.trans (hC6'.below HB.out.size fun b hb => (HI.out.lt hb).1))
          have HSt := Lib.hid (state_any w.heap.size x False s (by omega) d w6 hI6 HB6.out.size (by omega))
          have Hl6 := Lib.hid fun b (h : Own d x b) => hI6.lt h
          clear hC6 hC6' hI6 x0 x1 x2 xf
          go_wp2_with fail
          refine HSt.out.mono ?_
          rintro _ w7 ⟨rfl, s7, d7, hI7, hS7, hn7, hr7⟩
          have HB7 := Lib.hid (HB6.out.trans (hS7.below HB6.out.size fun b hb => (Hl6.out b hb).1))
          obtain ⟨oq7, hq7, -, -⟩ := hI7.atQ HB7.out.size
          have HLf := Lib.hid (qleft_any d7.r oq7 s7 w7 hq7)
          obtain ⟨x0, x1, x2, xf⟩ := hI7.cells
          have HI7 := Lib.hid hI7
          clear hI7 hS7 hq7 x0 x2 xf
          go_wp2_with fail
          refine HLf.out.mono ?_
          rintro _ w8 ⟨rfl, hB8⟩
          have hI8 := HI7.out.below (PR.stable s7) (PQ.stable s7) hB8
          have HB8 := Lib.hid (HB7.out.trans (hB8.mono HB7.out.size))
          have HRd := Lib.hid (read_bare 0 (s7.rest.length : Nat) w.heap.size x False s7 (by omega) d7 w8 hI8 HB8.out.size (by omega))
          have Hl8 := Lib.hid fun b (h : Own d7 x b) => hI8.lt h
          clear hI8 hB8 x1
          go_wp2_with fail
          refine HRd.out.mono ?_
          rintro _ w9 ⟨rfl, s9, d9, hI9, hS9, hn9, hr9⟩
          have ht := told1_le 0
          have HB9 := Lib.hid (HB8.out.trans (hS9.below HB8.out.size fun b hb => (Hl8.out b hb).1))
          have HSt2 := Lib.hid (state_any w.heap.size x False s9 (by omega) d9 w9 hI9 HB9.out.size (by omega))
          have Hl9 := Lib.hid fun b (h : Own d9 x b) => hI9.lt h
          clear hI9 hS9
          go_wp2_with fail
          refine HSt2.out.mono ?_
          rintro _ w10 ⟨rfl, s10, d10, hI10, hS10, -, -⟩
          have HF := Lib.hid (HB9.out.trans (hS10.below HB9.out.size fun b hb => (Hl9.out b hb).1))
          clear hI10 hS10
          go_wp2_with fail
          go_ret
          exact ⟨rfl, HF.out⟩
theorem wireReads_walk (b : Option Addr) (lb cb : Nat) (zs : List Int) (a : Option Addr) (len cap : Nat) (w : World) (hb : IsRow .u8 w b lb cb zs) (hcb : cb ≤ 140737488351232) (hr : IsOps w a len) (hl : len ≤ cap) :
    Calls Try.prog 5 #[.slice b lb cb, .slice a len cap] w fun e w' => e = .returned (.bool true) ∧ Below w.heap.size w w' := by
  obtain ⟨os, h1, h2⟩ := hr.list
  have hlc := hb.len_cap
  obtain ⟨bs, rfl, hbt⟩ := hb.bts
  by_cases h : len ≤ 300
  · exact wireReads_all bs b cb (by omega) os a len len cap w hbt h1 h2 h hl (by rw [if_neg (by omega)])
  · exact wireReads_all bs b cb (by omega) (os.take 300) a len 300 cap w hbt (by rw [List.length_take]; omega) (h2.take 300) (Nat.le_refl _) (by omega) (by rw [if_pos (by omega)]; rfl)
end Go.Proofs.Ytofialinjbjcmaa

/- The document's Block. -/
import Derived.Test.YtpjdknmgegbgnaaBkRef2
import Derived.Test.YtpjdknmgegbgnaaBkDec
import Derived.Test.YtpjdknmgegbgnaaRq2
namespace Go.Proofs.Ytpjdknmgegbgnaa
open Go.RowKit
set_option linter.unusedVariables false
set_option maxRecDepth 100000

/-- the document's reader above a mark -/
def QAt (lo hi p : Nat) (s : RS) (w : World) : Prop := ∃ oa, IsQ w p oa s ∧ (lo ≤ p ∧ p < hi) ∧ (∀ k, blk oa = some k → lo ≤ k ∧ k < hi)
theorem QAt.chg {F : Nat → Prop} {lo hi p : Nat} {s : RS} {w w' : World} (h : QAt lo hi p s w) (hc : Chg F w w') (hn : ∀ k, lo ≤ k ∧ k < hi → ¬ F k) : QAt lo hi p s w' := by
  obtain ⟨oa, h1, h2, h3⟩ := h
  exact ⟨oa, h1.chg hc (hn p h2) (fun k e => hn k (h3 k e)), h2, h3⟩
def GetsQ (lo hi p : Nat) (s : RS) (k : Nat) (w : World) (x : Ending) (w' : World) : Prop := x = .returned (.int .u64 ((s.get k).1 : Nat)) ∧ QAt lo hi p (s.get k).2 w' ∧ Chg (fun j => lo ≤ j ∧ j < hi) w w'
theorem getQ (lo hi p : Nat) (s : RS) (k : Nat) (hk : k ≤ 8) (w : World) (h : QAt lo hi p s w) :
    Calls Try.prog 42 #[.pointer (some ⟨p, 0, none⟩), .int .i64 (k : Int)] w (GetsQ lo hi p s k w) := by
  obtain ⟨oa, h1, h2, h3⟩ := h
  refine (qget_any p oa s k hk w h1).mono ?_
  rintro _ w' ⟨rfl, h4, h5⟩
  exact ⟨rfl, ⟨oa, h4, h2, h3⟩, h5.mono fun j _ e => by subst e; exact h2⟩
theorem zerosQ (lo hi p : Nat) (s : RS) (w : World) (h : QAt lo hi p s w) :
    Calls Try.prog 43 #[.pointer (some ⟨p, 0, none⟩)] w fun x w' => x = .returned (.tuple #[]) ∧ QAt lo hi p s.zeros w' ∧ Chg (fun j => lo ≤ j ∧ j < hi) w w' := by
  obtain ⟨oa, h1, h2, h3⟩ := h
  refine (qzeros_any p oa s w h1).mono ?_
  rintro _ w' ⟨rfl, h4, h5⟩
  exact ⟨rfl, ⟨oa, h4, h2, h3⟩, h5.mono fun j _ e => by subst e; exact h2⟩
theorem endQ (lo hi p : Nat) (s : RS) (w : World) (h : QAt lo hi p s w) :
    Calls Try.prog 44 #[.pointer (some ⟨p, 0, none⟩)] w fun x w' => x = .returned (.int .i64 (s.ending : Int)) ∧ Below w.heap.size w w' := by
  obtain ⟨oa, h1, h2, h3⟩ := h
  exact qend_any p oa s w h1
theorem pagesAre_any (n : Int) (w : World) : Calls Try.prog 31 #[.int .i64 n] w fun e w' => e = .returned (.bool (decide (0 ≤ n ∧ n ≤ 65536))) ∧ w' = w := by
  obtain ⟨b, hb⟩ : ∃ b, decide (0 ≤ n ∧ n ≤ 65536) = b := ⟨_, rfl⟩
  have HB := Lib.hid hb
  rw [hb]
  clear hb
  go_enter Try.func31, Try.ntmps31
  go_wp2_with fail
  all_goals
    go_ret
    rw [← HB.out]
    first
      | exact ⟨congrArg (fun b => Ending.returned (.bool b)) (decide_eq_decide.2 ⟨fun _ => by omega, fun _ => by omega⟩), rfl⟩
      | exact ⟨congrArg (fun b => Ending.returned (.bool b)) (decide_eq_false (by omega)).symm, rfl⟩
theorem summed_is {bs : List UInt8} (h : bs.length = 512) : summed (bs.take 508) = bs ↔ unle (bs.drop 508) = Crc.ofs (bs.take 508) := by
  have h4 : (bs.drop 508).length = 4 := by rw [List.length_drop]; omega
  have hof := Crc.ofs_lt (bs.take 508)
  unfold summed
  constructor
  · intro e
    have e2 : bs.take 508 ++ leb 4 (Crc.ofs (bs.take 508)) = bs.take 508 ++ bs.drop 508 := by rw [List.take_append_drop]; exact e
    rw [← List.append_cancel_left e2]
    exact unle_leb 4 _ (by omega)
  · intro e
    rw [← e, leb_unle h4, List.take_append_drop]
theorem dBlock8_early (gen pages i : Int) (a : Option Addr) (cap : Nat) (bs : List UInt8) (w : World) (hp : pages ≤ 9223372036854775807) (h : ¬ mayB gen pages i) :
    Calls Try.prog 21 #[.int .i64 gen, .int .i64 pages, .int .i64 i, .slice a bs.length cap] w (BlkP (bblock gen pages i bs) w) := by
  have HE := Lib.hid (show bblock gen pages i bs = (1, []) by unfold bblock; rw [if_neg h])
  rw [HE.out]
  have HG := Lib.hid fun w1 => genIs_any gen w1
  have HP := Lib.hid fun w1 => pagesAre_any pages w1
  have HB := Lib.hid fun w1 => dBlocks_any pages hp w1
  generalize bs.length = n
  unfold mayB at h
  by_cases hm1 : 0 ≤ gen ∧ gen ≤ 1099511627776
  · rw [decide_eq_true hm1] at HG
    by_cases hm2 : 0 ≤ pages ∧ pages ≤ 65536
    · rw [decide_eq_true hm2] at HP
      by_cases hi : i < 0
      · clear h hm1 hm2
        go_enter Try.func21, Try.ntmps21
        go_wp2_with (first
          | (go_at_call 28; refine (HG.out _).mono ?_; rintro _ wx ⟨rfl, e0⟩; rw [e0]; clear e0 wx)
          | (go_at_call 31; refine (HP.out _).mono ?_; rintro _ wx ⟨rfl, e0⟩; rw [e0]; clear e0 wx))
        refine bodyPost_ret (v := .tuple #[.slice none 0 0, .int .i64 1]) (by simp [results, Try.results21, go_sem]) rfl ?_
        exact blkP_no (Below.refl _ _)
      · have hge : ((nblocks pages.toNat : Nat) : Int) ≤ i := by
          apply Int.not_lt.1
          intro hlt
          exact h ⟨hm1, hm2, by omega, hlt⟩
        generalize ((nblocks pages.toNat : Nat) : Int) = nb at *
        clear h hm1 hm2
        go_enter Try.func21, Try.ntmps21
        go_wp2_with (first
          | (go_at_call 28; refine (HG.out _).mono ?_; rintro _ wx ⟨rfl, e0⟩; rw [e0]; clear e0 wx)
          | (go_at_call 31; refine (HP.out _).mono ?_; rintro _ wx ⟨rfl, e0⟩; rw [e0]; clear e0 wx)
          | (go_at_call 9; refine (HB.out _).mono ?_; rintro _ wx ⟨rfl, e0⟩; rw [e0]; clear e0 wx))
        refine bodyPost_ret (v := .tuple #[.slice none 0 0, .int .i64 1]) (by simp [results, Try.results21, go_sem]) rfl ?_
        exact blkP_no (Below.refl _ _)
    · rw [decide_eq_false hm2] at HP
      clear h hm1 hm2
      go_enter Try.func21, Try.ntmps21
      go_wp2_with (first
        | (go_at_call 28; refine (HG.out _).mono ?_; rintro _ wx ⟨rfl, e0⟩; rw [e0]; clear e0 wx)
        | (go_at_call 31; refine (HP.out _).mono ?_; rintro _ wx ⟨rfl, e0⟩; rw [e0]; clear e0 wx))
      refine bodyPost_ret (v := .tuple #[.slice none 0 0, .int .i64 1]) (by simp [results, Try.results21, go_sem]) rfl ?_
      exact blkP_no (Below.refl _ _)
  · rw [decide_eq_false hm1] at HG
    clear h hm1
    go_enter Try.func21, Try.ntmps21
    go_wp2_with (first
      | (go_at_call 28; refine (HG.out _).mono ?_; rintro _ wx ⟨rfl, e0⟩; rw [e0]; clear e0 wx))
    refine bodyPost_ret (v := .tuple #[.slice none 0 0, .int .i64 1]) (by simp [results, Try.results21, go_sem]) rfl ?_
    exact blkP_no (Below.refl _ _)
def RelBq (W : World) (lo hi p q : Nat) (xs : List UInt8) (n : Nat) (o v : Value) (wr : World) : Prop :=
  ∃ (k qk : Nat) (oa : Option Addr) (oc : Nat), k ≤ n ∧ qk = q + k ∧ v = .int .i64 (qk : Int) ∧ o = .slice oa k oc ∧ QAt lo hi p ⟨xs.drop (17 + 2 * k), 0⟩ wr ∧ OR eN wr oa oc k (cellsN (ints (numsAt xs 17 k))) ∧ (∀ j, blk oa = some j → hi ≤ j) ∧ Below W.heap.size W wr ∧ hi ≤ wr.heap.size
theorem relBq_next {W w1 w2 w' : World} {lo hi p q : Nat} {xs : List UInt8} {n k qk : Nat} {oa oa' : Option Addr} {oc' x : Nat} (hk : k < n) (hq : qk = q + k) (hlo : W.heap.size ≤ lo) (hlh : lo ≤ hi) (hB : Below W.heap.size W w1) (hc : Chg (fun j => lo ≤ j ∧ j < hi) w1 w2) (hR : QAt lo hi p ⟨xs.drop (17 + 2 * k + 2), 0⟩ w2) (hz : hi ≤ w2.heap.size)
    (hof : ∀ j, blk oa = some j → hi ≤ j) (hx : fld xs (17 + 2 * k) 2 = x) (hO : OR eN w' oa' oc' (k + 1) (cellsN (ints (numsAt xs 17 k)) ++ [.int .i64 (x : Int)])) (hC : Chg (fun j => blk oa = some j) (w2.alloc (.cells #[.int .i64 (x : Int)] 3)) w') (hb : blk oa' = blk oa ∨ blk oa' = some (w2.alloc (.cells #[.int .i64 (x : Int)] 3)).heap.size) {v : Value} (hv : v = .int .i64 ((qk + 1 : Nat) : Int)) :
    RelBq W lo hi p q xs n (.slice oa' (k + 1) oc') v w' := by
  subst hv
  have ha := one_below w2 (.cells #[.int .i64 (x : Int)] 3)
  have hB2 := hB.trans (hc.below hB.size (fun j e => by omega))
  have hB3 := hB2.trans (ha.mono hB2.size)
  refine ⟨k + 1, qk + 1, oa', oc', hk, by omega, rfl, rfl, ?_, ?_, fun j e => ?_, hB3.trans (hC.below hB3.size (fun j e => by have := hof j e; omega)), ?_⟩
  · have := (hR.chg (F := fun _ => False) (Chg.of_below ha) (fun _ _ f => f.elim)).chg hC (fun j e f => by have := hof j f; omega)
    rw [show 17 + 2 * (k + 1) = 17 + 2 * k + 2 by omega]; exact this
  · rw [numsAt_snoc, hx]
    simp only [ints, cellsN, List.map_append, List.map_cons, List.map_nil] at hO ⊢
    exact hO
  · rcases hb with hb | hb
    · exact hof j (hb ▸ e)
    · rw [hb] at e; cases e; exact Nat.le_trans hz ha.size
  · exact Nat.le_trans (Nat.le_trans hz ha.size) hC.size
set_option maxHeartbeats 2000000 in
theorem dBlock8_late (gen pages i : Nat) (a : Option Addr) (cap : Nat) (bs : List UInt8) (w : World) (hg : gen ≤ 1099511627776) (hp : pages ≤ 65536) (hi : i < nblocks pages) (hcap : bs.length ≤ cap) (hll : bs.length ≤ 140737488355328) (hb : Bts w a bs) :
    Calls Try.prog 21 #[.int .i64 (gen : Int), .int .i64 (pages : Int), .int .i64 (i : Int), .slice a bs.length cap] w (BlkP (bread gen pages i bs) w) := by
  have HG := Lib.hid fun w1 => genIs_any (gen : Int) w1
  rw [decide_eq_true (show 0 ≤ (gen : Int) ∧ (gen : Int) ≤ 1099511627776 by omega)] at HG
  have HP := Lib.hid fun w1 => pagesAre_any (pages : Int) w1
  rw [decide_eq_true (show 0 ≤ (pages : Int) ∧ (pages : Int) ≤ 65536 by omega)] at HP
  have HB := Lib.hid fun w1 => dBlocks_any (pages : Int) (by omega) w1
  rw [Int.toNat_natCast] at HB
  have hi240 : i * 240 ≤ pages := by unfold nblocks at hi; omega
  have hil : i ≤ 300 := by unfold nblocks at hi; omega
  have hiI : ¬ ((nblocks pages : Nat) : Int) ≤ (i : Int) := by omega
  by_cases h5 : bs.length = 512
  rotate_left
  · have HE := Lib.hid (show bread gen pages i bs = (16, []) by unfold bread; rw [if_pos h5])
    rw [HE.out]
    have hl1 : ((bs.length : Int) != 512) = true := by rw [bne_iff_ne]; omega
    generalize bs.length = n at *
    generalize ((nblocks pages : Nat) : Int) = nb at *
    clear hi hb
    go_enter Try.func21, Try.ntmps21
    go_wp2_with (first
      | (go_at_call 28; refine (HG.out _).mono ?_; rintro _ wx ⟨rfl, e0⟩; rw [e0]; clear e0 wx)
      | (go_at_call 31; refine (HP.out _).mono ?_; rintro _ wx ⟨rfl, e0⟩; rw [e0]; clear e0 wx)
      | (go_at_call 9; refine (HB.out _).mono ?_; rintro _ wx ⟨rfl, e0⟩; rw [e0]; clear e0 wx))
    refine bodyPost_ret (v := .tuple #[.slice none 0 0, .int .i64 16]) (by simp [results, Try.results21, go_sem]) rfl ?_
    exact blkP_no (Below.refl _ _)
  have hlt : (bs.take 508).length = 508 := by rw [List.length_take]; omega
  obtain ⟨b, off, rfl, hbw, -⟩ := hb.at (k := 0) (by omega)
  have hbt := hb.cut 0 508
  rw [List.drop_zero, Nat.add_zero] at hbt
  have HSU := Lib.hid fun w1 (h : Below w.heap.size w w1) => dSum8_any (some ⟨b, off, none⟩) cap (bs.take 508) (by omega) w1 (hbt.below h)
  have HN2 := Lib.hid fun w1 (h : Below w.heap.size w w1) => qnew_any (some ⟨b, off, none⟩) cap (bs.take 508) w1 (hbt.below h) (by omega)
  have HEQ := Lib.hid fun (a1 : Option Addr) (c1 : Nat) w1 (h : Below w.heap.size w w1) (ht : Bts w1 a1 (summed (bs.take 508))) => eqBytes_any (summed (bs.take 508)) bs a1 (some ⟨b, off, none⟩) c1 cap (by rw [summed_length]; omega) (by omega) w1 ht (hb.below h)
  have hsl : (summed (bs.take 508)).length = 512 := by rw [summed_length, hlt]
  unfold NewB at HSU
  unfold Same at HEQ
  rw [hlt] at HN2 HSU
  simp only [hsl] at HSU HEQ
  unfold NewQ at HN2
  have hsi := summed_is h5
  have HR := Lib.hid (show bread gen pages i bs = if unle (bs.drop 508) ≠ Crc.ofs (bs.take 508) then (6, []) else if fld (bs.take 508) 0 1 ≠ 66 then (5, []) else if ¬ (fld (bs.take 508) 1 8 = gen ∧ fld (bs.take 508) 9 4 = i ∧ fld (bs.take 508) 13 4 = pages) then (25, [])
      else if ((bs.take 508).drop (17 + 2 * inBlk pages i)).all (· == 0) = false then (5, []) else (0, numsAt (bs.take 508) 17 (inBlk pages i)) by
    have := inBlk_le pages i
    unfold bread
    rw [if_neg (by simp [h5]), fld_take (by omega), fld_take (by omega), fld_take (by omega), fld_take (by omega), numsAt_take (by omega)])
  simp only [h5] at hcap HEQ ⊢
  have hc2 : (512 : Int) ≤ (cap : Int) := by omega
  have hc1 : (508 : Int) ≤ (cap : Int) := by omega
  simp only [hsi] at HEQ
  generalize summed (bs.take 508) = sb at *
  generalize unle (bs.drop 508) = sv at *
  generalize Crc.ofs (bs.take 508) = sm at *
  generalize bs.take 508 = xs at *
  have hn240 := inBlk_le pages i
  have hmn : i * 240 + inBlk pages i ≤ pages := by unfold inBlk; omega
  have hmx : inBlk pages i = 240 ∨ i * 240 + inBlk pages i = pages := by unfold inBlk; omega
  generalize inBlk pages i = n at *
  generalize ((nblocks pages : Nat) : Int) = nb at *
  have HXL := Lib.hid hlt
  clear hb hbt hi h5 hlt hbw hll hsi hsl
  go_enter Try.func21, Try.ntmps21
  go_wp2_with (first
    | (go_at_call 28; refine (HG.out _).mono ?_; rintro _ wx ⟨rfl, e0⟩; rw [e0]; clear e0 wx)
    | (go_at_call 31; refine (HP.out _).mono ?_; rintro _ wx ⟨rfl, e0⟩; rw [e0]; clear e0 wx)
    | (go_at_call 9; refine (HB.out _).mono ?_; rintro _ wx ⟨rfl, e0⟩; rw [e0]; clear e0 wx))
  clear HG HP HB
  refine (HSU.out w (Below.refl _ _)).mono ?_
  rintro _ w1 ⟨sa, sc, rfl, hO1, -, hb1⟩
  have HB1 := Lib.hid hb1
  have H := Lib.hid (HEQ.out sa sc w1 hb1 hO1.bts)
  clear hO1 hb1 HSU HEQ
  by_cases hss : sv = sm
  rotate_left
  · rw [decide_eq_false hss] at H
    have HE := Lib.hid (show bread gen pages i bs = (6, []) by rw [HR.out, if_pos hss])
    go_wp2_with fail
    refine H.out.mono ?_
    rintro _ w2 ⟨rfl, hb2⟩
    have HB2 := Lib.hid (HB1.out.trans (hb2.mono HB1.out.size))
    clear hb2 H
    go_wp2_with fail
    refine bodyPost_ret (v := .tuple #[.slice none 0 0, .int .i64 6]) (by simp [results, Try.results21, go_sem]) rfl ?_
    rw [HE.out]
    exact blkP_no HB2.out
  rw [decide_eq_true hss] at H
  rw [if_neg (by simpa using hss)] at HR
  clear hss
  go_wp2_with fail
  refine H.out.mono ?_
  rintro _ w3 ⟨rfl, hb3⟩
  have HB3 := Lib.hid (HB1.out.trans (hb3.mono HB1.out.size))
  clear hb3 H HB1
  go_wp2_with fail
  refine (HN2.out _ HB3.out).mono ?_
  rintro _ w4 ⟨p, oa, rfl, hI, hp1, ha1, hb4⟩
  have hQ4 : QAt w3.heap.size w4.heap.size p ⟨xs.drop 0, 0⟩ w4 := ⟨oa, by rw [List.drop_zero]; exact hI, ⟨hp1, hI.lt⟩, fun k hk => ⟨ha1 k hk, hI.lt_list k hk⟩⟩
  have hs3 := HB3.out.size
  have hs4 := hb4.size
  have HB4 := Lib.hid (HB3.out.trans (hb4.mono HB3.out.size))
  generalize w3.heap.size = lo at *
  generalize hhi : w4.heap.size = hi at hQ4 hs4
  have hz4 : hi ≤ w4.heap.size := by omega
  clear hhi
  have H := Lib.hid (getQ _ _ _ _ 1 (by decide) w4 hQ4)
  unfold GetsQ at H
  rw [get_go (by rw [HXL.out]; decide)] at H
  simp only [Nat.zero_add] at H
  have hf0 := fld_lt xs 0 1
  have hf1 := fld_lt xs 1 8
  have hf2 := fld_lt xs 9 4
  have hf3 := fld_lt xs 13 4
  generalize fld xs 0 1 = f0 at *
  clear hI hp1 ha1 hb4 hQ4 HN2 HB3
  go_wp2_with fail
  refine H.out.mono ?_
  clear H
  rintro _ w5 ⟨rfl, hR5, hc5⟩
  have HB5 := Lib.hid (HB4.out.trans (hc5.below HB4.out.size (fun j e => by omega)))
  have hz5 : hi ≤ w5.heap.size := Nat.le_trans hz4 hc5.size
  clear hc5 HB4 hz4
  by_cases h66 : f0 = 66
  rotate_left
  · have HE := Lib.hid (show bread gen pages i bs = (5, []) by rw [HR.out, if_pos h66])
    have hsd : ((f0 : Int) != 66) = true := by rw [bne_iff_ne]; omega
    go_wp2_with fail
    refine bodyPost_ret (v := .tuple #[.slice none 0 0, .int .i64 5]) (by simp [results, Try.results21, go_sem]) rfl ?_
    rw [HE.out]
    exact blkP_no HB5.out
  rw [if_neg (by simpa using h66)] at HR
  have h66d : ((f0 : Int) != 66) = false := by rw [bne_eq_false_iff_eq]; omega
  have H := Lib.hid (getQ _ _ _ _ 8 (by decide) w5 hR5)
  unfold GetsQ at H
  rw [get_go (by rw [HXL.out]; decide)] at H
  simp only [show (1 + 8 : Nat) = 9 from rfl] at H
  generalize fld xs 1 8 = f1 at *
  clear hR5 h66
  go_wp2_with fail
  refine H.out.mono ?_
  clear H
  rintro _ w6 ⟨rfl, hR6, hc6⟩
  have HB6 := Lib.hid (HB5.out.trans (hc6.below HB5.out.size (fun j e => by omega)))
  have hz6 : hi ≤ w6.heap.size := Nat.le_trans hz5 hc6.size
  have H := Lib.hid (getQ _ _ _ _ 4 (by decide) w6 hR6)
  unfold GetsQ at H
  rw [get_go (by rw [HXL.out]; decide)] at H
  simp only [show (9 + 4 : Nat) = 13 from rfl] at H
  generalize fld xs 9 4 = f2 at *
  clear hR6 hc6 HB5 hz5
  go_wp2_with fail
  refine H.out.mono ?_
  clear H
  rintro _ w7 ⟨rfl, hR7, hc7⟩
  have HB7 := Lib.hid (HB6.out.trans (hc7.below HB6.out.size (fun j e => by omega)))
  have hz7 : hi ≤ w7.heap.size := Nat.le_trans hz6 hc7.size
  have H := Lib.hid (getQ _ _ _ _ 4 (by decide) w7 hR7)
  unfold GetsQ at H
  rw [get_go (by rw [HXL.out]; decide)] at H
  simp only [show (13 + 4 : Nat) = 17 from rfl] at H
  generalize fld xs 13 4 = f3 at *
  clear hR7 hc7 HB6 hz6
  go_wp2_with fail
  refine H.out.mono ?_
  clear H
  rintro _ w8 ⟨rfl, hR8, hc8⟩
  have HB8 := Lib.hid (HB7.out.trans (hc8.below HB7.out.size (fun j e => by omega)))
  have hz8 : hi ≤ w8.heap.size := Nat.le_trans hz7 hc8.size
  have HR8 := Lib.hid hR8
  clear hR8 hc8 HB7 hz7
  by_cases hall : f1 = gen ∧ f2 = i ∧ f3 = pages
  rotate_left
  · have HE := Lib.hid (show bread gen pages i bs = (25, []) by rw [HR.out, if_pos hall])
    by_cases k1 : f1 = gen
    · have k1d : ((f1 : Int) != (gen : Int)) = false := by rw [bne_eq_false_iff_eq]; omega
      by_cases k2 : f2 = i
      · have k2d : ((f2 : Int) != (i : Int)) = false := by rw [bne_eq_false_iff_eq]; omega
        have k3d : ((f3 : Int) != (pages : Int)) = true := by rw [bne_iff_ne]; omega
        clear k1 k2 hall
        go_wp2_with fail
        refine bodyPost_ret (v := .tuple #[.slice none 0 0, .int .i64 25]) (by simp [results, Try.results21, go_sem]) rfl ?_
        rw [HE.out]
        exact blkP_no HB8.out
      · have k2d : ((f2 : Int) != (i : Int)) = true := by rw [bne_iff_ne]; omega
        clear k1 k2 hall
        go_wp2_with fail
        refine bodyPost_ret (v := .tuple #[.slice none 0 0, .int .i64 25]) (by simp [results, Try.results21, go_sem]) rfl ?_
        rw [HE.out]
        exact blkP_no HB8.out
    · have k1d : ((f1 : Int) != (gen : Int)) = true := by rw [bne_iff_ne]; omega
      clear k1 hall
      go_wp2_with fail
      refine bodyPost_ret (v := .tuple #[.slice none 0 0, .int .i64 25]) (by simp [results, Try.results21, go_sem]) rfl ?_
      rw [HE.out]
      exact blkP_no HB8.out
  rw [if_neg (fun h => h hall)] at HR
  obtain ⟨rfl, rfl, rfl⟩ := hall
  have k1d : ((f1 : Int) != (f1 : Int)) = false := by simp
  have k2d : ((f2 : Int) != (f2 : Int)) = false := by simp
  have k3d : ((f3 : Int) != (f3 : Int)) = false := by simp
  obtain ⟨q, hq⟩ : ∃ q, f2 * 240 = q := ⟨_, rfl⟩
  have hiI : (f2 : Int) * 240 = (q : Int) := by omega
  have hiJ : ((f2 : Int) + 1) * 240 = (q : Int) + 240 := by omega
  rw [hq] at hmn hmx hi240
  clear hq
  go_wp2_with fail
  go_loopw [15, 16] (fun o v wr => RelBq w lo hi p q xs n o v wr) (fun _ v _ => q + n - (intOf v).toNat)
  case atStart => exact ⟨0, q, none, 0, Nat.zero_le _, rfl, rfl, rfl, HR8.out, OR.nil eN _, fun j e => (by cases e), HB8.out, hz8⟩
  case round =>
    clear HR8 HB8 hz8
    obtain ⟨k, qk, oa, oc, hk, hqk, rfl, rfl, hR, hO, hof, hB, hz⟩ := hrel
    by_cases hkn : k < n
    · have H := Lib.hid (getQ _ _ _ _ 2 (by decide) wr hR)
      unfold GetsQ at H
      rw [get_go (by rw [HXL.out]; omega)] at H
      simp only at H
      have hxl := fld_lt xs (17 + 2 * k) 2
      generalize hxx : fld xs (17 + 2 * k) 2 = x at H hxl
      have HX := Lib.hid hxx
      have HO := Lib.hid hO
      have HB := Lib.hid hB
      have HOF := Lib.hid hof
      have HJ := Lib.hid hkn
      have HQK := Lib.hid hqk
      have hqn : (qk : Int) < (f3 : Int) := by omega
      have hqm : (qk : Int) < (q : Int) + 240 := by omega
      have hk240 : k < 240 := by omega
      clear hR hO hof hB hxx hqk
      go_wp2_with fail
      refine H.out.mono ?_
      clear H
      rintro _ w9 ⟨rfl, hR9, hc9⟩
      have HR9 := Lib.hid hR9
      have HC9 := Lib.hid hc9
      have hz9 : hi ≤ w9.heap.size := Nat.le_trans hz hc9.size
      have ha := one_below w9 (.cells #[.int .i64 (x : Int)] 3)
      have HO9 := Lib.hid (OR.chg (F := fun _ => False) (HO.out.chg hc9 (fun j e f => by have := HOF.out j e; omega)) (Chg.of_below ha) (fun _ _ f => f))
      have HNW := Lib.hid (cell_new w9 (.int .i64 (x : Int)) 3)
      clear hR9 hc9 ha HO
      go_wp2_with (at_builtin; go_must (refine wpList_append_or eN rfl (.tmp 87) (.tmp 91) rfl rfl HO9.out rfl (m := 1) (news := [.int .i64 (x : Int)]) rfl (.inr ⟨_, rfl, HNW.out⟩) (by simp [Value.oneCell']) (by show (k + 1) * 8 ≤ _; omega) (by omega) ?_)
                   intro oa2 oc2 w10 hO10 hC10 hb10 _)
      go_roundw
      case rel => exact relBq_next HJ.out HQK.out hs3 hs4 HB.out HC9.out HR9.out hz9 HOF.out HX.out hO10 hC10 hb10 (by go_num)
      case measure => exact meas_on HJ.out HQK.out
    · obtain rfl : k = n := by omega
      have hstop : ¬ (qk : Int) < (f3 : Int) ∨ ((qk : Int) < (f3 : Int) ∧ ¬ (qk : Int) < (q : Int) + 240) := by omega
      have H := Lib.hid (zerosQ _ _ _ _ wr hR)
      have HO := Lib.hid hO
      have HB := Lib.hid hB
      have HOF := Lib.hid hof
      clear hR hO hof hB hkn hqk hmn hmx
      rcases hstop with h1 | ⟨h1, h2⟩
      all_goals
        go_wp2_with fail
        refine H.out.mono ?_
        clear H
        rintro _ w9 ⟨rfl, hR9, hc9⟩
        have HB9 := Lib.hid (HB.out.trans (hc9.below HB.out.size (fun j e => by omega)))
        have HO9 := Lib.hid (HO.out.chg hc9 (fun j e f => by have := HOF.out j e; omega))
        have H := Lib.hid (endQ _ _ _ _ w9 hR9)
        clear hR9 hc9 HB HO
        by_cases hzz : (xs.drop (17 + 2 * k)).all (· == 0) = true
        · rw [ending_all hzz] at H
          have HE := Lib.hid (show bread f1 f3 f2 bs = (0, numsAt xs 17 k) by rw [HR.out, if_neg (by simp [hzz])])
          clear hzz
          go_wp2_with fail
          refine H.out.mono ?_
          rintro _ w10 ⟨rfl, hb10⟩
          have HF := Lib.hid (blkP_yes (w := w) (W := w10) (numsAt_length xs 17 k) (OR.chg (F := fun _ => False) HO9.out (Chg.of_below hb10) (fun _ _ f => f)) (fun j e => Nat.le_trans hs3 (Nat.le_trans hs4 (HOF.out j e))) (HB9.out.trans (hb10.mono HB9.out.size)))
          clear hb10 H
          go_wp2_with fail
          refine bodyPost_ret (v := .tuple #[.slice oa k oc, .int .i64 0]) (by simp [results, Try.results21, go_sem]) rfl ?_
          rw [HE.out]
          exact HF.out
        · have hzf : (xs.drop (17 + 2 * k)).all (· == 0) = false := by simpa using hzz
          rw [ending_not hzf] at H
          have HE := Lib.hid (show bread f1 f3 f2 bs = (5, []) by rw [HR.out, if_pos hzf])
          clear hzz hzf
          go_wp2_with fail
          refine H.out.mono ?_
          rintro _ w10 ⟨rfl, hb10⟩
          have HB10 := Lib.hid (HB9.out.trans (hb10.mono HB9.out.size))
          clear hb10 H
          go_wp2_with fail
          refine bodyPost_ret (v := .tuple #[.slice none 0 0, .int .i64 5]) (by simp [results, Try.results21, go_sem]) rfl ?_
          rw [HE.out]
          exact blkP_no HB10.out
theorem dBlock8_any (gen pages i : Int) (a : Option Addr) (cap : Nat) (bs : List UInt8) (w : World) (hp : pages ≤ 9223372036854775807) (hcap : bs.length ≤ cap) (hll : bs.length ≤ 140737488355328) (hb : Bts w a bs) :
    Calls Try.prog 21 #[.int .i64 gen, .int .i64 pages, .int .i64 i, .slice a bs.length cap] w (BlkP (bblock gen pages i bs) w) := by
  by_cases h : mayB gen pages i
  · have he : bblock gen pages i bs = bread gen.toNat pages.toNat i.toNat bs := by unfold bblock; rw [if_pos h]
    rw [he]
    obtain ⟨h1, h2, h3, h4⟩ := h
    obtain ⟨g, rfl⟩ := Int.eq_ofNat_of_zero_le h1.1
    obtain ⟨q, rfl⟩ := Int.eq_ofNat_of_zero_le h2.1
    obtain ⟨j, rfl⟩ := Int.eq_ofNat_of_zero_le h3
    rw [Int.toNat_natCast] at h4
    exact dBlock8_late g q j a cap bs w (by omega) (by omega) (by omega) hcap hll hb
  · exact dBlock8_early gen pages i a cap bs w hp h
end Go.Proofs.Ytpjdknmgegbgnaa

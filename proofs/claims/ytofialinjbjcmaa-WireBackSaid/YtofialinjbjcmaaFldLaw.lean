/- The walk of WireBack. -/
import Derived.Test.YtofialinjbjcmaaFldShort
import Derived.Test.YtofialinjbjcmaaFldAll
namespace Go.Proofs.Ytofialinjbjcmaa
open Go.RowKit
set_option linter.unusedVariables false

theorem long_yes (n : Int) (h : 1048576 < n) (w : World) : Calls Try.prog 22 #[.int .i64 n] w fun x w' => x = .returned (.bool true) ∧ w = w' :=
  (long_any n w).mono fun x w' ⟨h1, h2⟩ => ⟨by rw [h1, decide_eq_true h], h2⟩
theorem long_no (n : Int) (h : n ≤ 1048576) (w : World) : Calls Try.prog 22 #[.int .i64 n] w fun x w' => x = .returned (.bool false) ∧ w = w' :=
  (long_any n w).mono fun x w' ⟨h1, h2⟩ => ⟨by rw [h1, decide_eq_false (by omega)], h2⟩
theorem ws_new (m : Nat) (h : m ≤ 16777216) : WS.new (m : Int) = ⟨m, [], 0⟩ := by
  simp only [WS.new]; congr 1; omega
theorem ws_fill (T : List UInt8) (tl pd q : Nat) (h : T.length = tl) (hq : tl + pd = q) : (⟨q, T, 0⟩ : WS).fill (q : Int) = ⟨q, T ++ List.replicate pd 0, 0⟩ := by
  simp only [WS.fill, WS.add]
  rw [if_neg (by omega), if_neg (by omega), if_neg (by simp), Int.toNat_natCast, show q - T.length = pd by omega, if_neg (by rw [List.length_replicate]; omega)]
theorem zeros_end (pd : Nat) : (⟨List.replicate pd 0, 0⟩ : RS).zeros = ⟨[], 0⟩ := by
  simp only [RS.zeros]
  rw [if_neg (by simp), if_neg (by simp)]
theorem encs_bound (os : List Op2) (h : ∀ o ∈ os, o.fits) : (encs os).length ≤ os.length * 140737488351300 := by
  induction os with
  | nil => simp [encs]
  | cons o t ih =>
    have h1 := ih fun o ho => h o (List.mem_cons_of_mem _ ho)
    have h2 : o.enc.length ≤ 140737488351300 := by
      have := (h o (List.mem_cons_self ..)).2.2.1
      unfold Op2.enc
      repeat' split
      all_goals first | omega | (simp only [leb_length, List.length_cons]; omega)
    have e : (encs (o :: t)).length = o.enc.length + (encs t).length := by simp [encs]
    rw [e, List.length_cons, Nat.succ_mul]; omega

def RelB1 (w0 : World) (os : List Op2) (t i : Value) (wr : World) : Prop :=
  ∃ k : Nat, k ≤ os.length ∧ i = .int .i64 k ∧ t = .int .i64 ((encs (os.take k)).length : Nat) ∧ (∀ o ∈ os.take k, o.sh = true → o.bs.length ≤ 255) ∧ Below w0.heap.size w0 wr
theorem relB1_next {w0 wr w1 : World} {os : List Op2} {k m : Nat} {o : Op2} (ho : os[k]? = some o) (hm : (encs (os.take k)).length + o.enc.length = m) (hs : ∀ o ∈ os.take k, o.sh = true → o.bs.length ≤ 255) (h1 : o.sh = true → o.bs.length ≤ 255) (hB : Below w0.heap.size w0 wr) (h2 : Below wr.heap.size wr w1) {t i : Value} (ht : t = .int .i64 (m : Nat)) (hi : i = .int .i64 ((k + 1 : Nat) : Int)) : RelB1 w0 os t i w1 := by
  subst ht hi
  have hk := (List.getElem?_eq_some_iff.1 ho).1
  refine ⟨k + 1, hk, rfl, by rw [encs_snoc ho, List.length_append, hm], ?_, hB.trans (h2.mono hB.size)⟩
  intro x hx
  rw [List.take_succ_eq_append_getElem hk, (List.getElem?_eq_some_iff.1 ho).2, List.mem_append, List.mem_singleton] at hx
  rcases hx with hx | rfl
  · exact hs x hx
  · exact h1
def RelB2 (w0 : World) (p : Nat) (a1 : Option Addr) (os : List Op2) (pd : Nat) (oa : Option Addr) (cap : Nat) (bs : List UInt8) (i : Value) (wr : World) : Prop :=
  ∃ (k : Nat) (a' : Option Addr) (c' : Nat), k ≤ os.length ∧ i = .int .i64 k ∧ IsR wr p a' c' ⟨encs (os.drop k) ++ List.replicate pd 0, 0⟩ ∧ blk a' = blk a1 ∧ OB wr oa cap bs ∧ Below w0.heap.size w0 wr

set_option maxRecDepth 100000 in
set_option maxHeartbeats 8000000 in
theorem wireBack_all (os : List Op2) (a : Option Addr) (len m cap : Nat) (pad n : Int) (w : World) (hom : os.length = m) (ho : OpsAt w.heap.size w a os) (hm : m ≤ 300) (hmc : m ≤ cap) (hmin : (if (300 : Int) < (len : Int) then (300 : Int) else (len : Int)) = (m : Int)) :
    Calls Try.prog 6 #[.slice a len cap, .int .i64 pad, .int .i64 n] w fun e w' => e = .returned (.bool true) ∧ Below w.heap.size w w' := by
  have hbd := encs_bound os ho.fits
  rw [hom] at hbd
  have Hom := Lib.hid hom
  have Ho := Lib.hid ho
  have htot : (encs os).length ≤ 42221246505390000 := by omega
  have Htot := Lib.hid htot
  clear hom ho hbd htot
  go_enter Try.func6, Try.ntmps6
  go_wp2_with fail
  clear hmin
  go_loopw [7, 8] (fun t i wr => RelB1 w os t i wr) (fun _ i _ => m - (intOf i).toNat)
  case atStart => exact ⟨0, Nat.zero_le _, rfl, by simp [encs], by simp, Below.refl _ _⟩
  case round =>
    obtain ⟨k, hk, rfl, rfl, hs, hB⟩ := hrel
    rw [Hom.out] at hk
    have HB := Lib.hid hB
    have Hs := Lib.hid hs
    by_cases hlt : k < m
    · obtain ⟨o, hoj⟩ : ∃ o, os[k]? = some o := ⟨_, List.getElem?_eq_getElem (by rw [Hom.out]; exact hlt)⟩
      obtain ⟨bb, off, rfl, hbb, hf, ⟨l0, l1, l2, l3⟩, hbt, hbl⟩ := (Ho.out.below hB).at hoj
      have HL := Lib.hid fun (w' : World) (h : Below wr.heap.size wr w') => (OpAt.below ⟨hf, ⟨l0, l1, l2, l3⟩, hbt, hbl⟩ hbb (h.mono hB.size)).2.1
      have hle := encs_le os (k + 1)
      rw [encs_snoc hoj, List.length_append] at hle
      have hle' : (encs (os.take k)).length + o.enc.length ≤ 42221246505390000 := Nat.le_trans hle Htot.out
      have hS := isShort_any o wr
      have HSz := Lib.hid fun w' => size_any o hf.2.2.1 w'
      simp only [show o.size = o.enc.length from rfl] at HSz
      have hbl255 := hf.2.2.1
      by_cases hsh : o.sh = true
      · rw [hsh] at hS
        have HS := Lib.hid hS
        simp only [Op2.val] at HS
        by_cases h255 : o.bs.length ≤ 255
        · have HN := Lib.hid fun (w1 : World) (t i : Value) (h2 : Below wr.heap.size wr w1) => relB1_next (t := t) (i := i) hoj rfl Hs.out (fun _ => h255) HB.out h2
          simp only [Op2.val] at HSz
          generalize o.enc.length = ol at *
          generalize (encs (os.take k)).length = mm at *
          have hd : decide ((255 : Int) < (o.bs.length : Int)) = false := decide_eq_false (by omega)
          clear hS hsh hf hbt hbl hoj hle hs hB
          go_wp2_with fail
          refine HS.out.mono ?_
          rintro _ w2 ⟨rfl, hB2⟩
          clear l0 l1 l2 l3
          obtain ⟨l0, l1, l2, l3⟩ := HL.out w2 hB2
          have HB2 := Lib.hid hB2
          clear hB2
          go_wp2_with fail
          refine (HSz.out w2).mono ?_
          rintro _ w3 ⟨rfl, hB3⟩
          have HB3 := Lib.hid hB3
          clear hB3
          go_wp2_with fail
          go_roundw
          case rel => exact HN.out w3 _ _ (HB2.out.trans (HB3.out.mono HB2.out.size)) (by go_num) (by go_num)
          case measure => simp [intOf]; omega
        · have hd : decide ((255 : Int) < (o.bs.length : Int)) = true := decide_eq_true (by omega)
          generalize o.enc.length = ol at *
          generalize (encs (os.take k)).length = mm at *
          clear hS hsh hf hbt hbl hoj hle hs hB HSz
          go_wp2_with fail
          refine HS.out.mono ?_
          rintro _ w2 ⟨rfl, hB2⟩
          clear l0 l1 l2 l3
          obtain ⟨l0, l1, l2, l3⟩ := HL.out w2 hB2
          have HB2 := Lib.hid (HB.out.trans (hB2.mono HB.out.size))
          clear hB2
          go_wp2_with fail
          go_ret
          exact ⟨rfl, HB2.out⟩
      · rw [Bool.not_eq_true] at hsh
        have Hsh := Lib.hid hsh
        rw [hsh] at hS
        have HS := Lib.hid hS
        simp only [Op2.val] at HS HSz
        have HN := Lib.hid fun (w1 : World) (t i : Value) (h2 : Below wr.heap.size wr w1) => relB1_next (t := t) (i := i) hoj rfl Hs.out (fun h => by rw [Hsh.out] at h; cases h) HB.out h2
        generalize o.enc.length = ol at *
        generalize (encs (os.take k)).length = mm at *
        clear hS hsh hf hbt hbl hoj hle hs hB
        go_wp2_with fail
        refine HS.out.mono ?_
        rintro _ w2 ⟨rfl, hB2⟩
        clear l0 l1 l2 l3
        obtain ⟨l0, l1, l2, l3⟩ := HL.out w2 hB2
        have HB2 := Lib.hid hB2
        clear hB2
        go_wp2_with fail
        refine (HSz.out w2).mono ?_
        rintro _ w3 ⟨rfl, hB3⟩
        have HB3 := Lib.hid hB3
        clear hB3
        go_wp2_with fail
        go_roundw
        case rel => exact HN.out w3 _ _ (HB2.out.trans (HB3.out.mono HB2.out.size)) (by go_num) (by go_num)
        case measure => simp [intOf]; omega
    · have hke : os.take k = os := List.take_of_length_le (by rw [Hom.out]; omega)
      rw [hke] at hs ⊢
      have Hs2 := Lib.hid hs
      clear hs Hs
      by_cases c1 : pad < 0
      · go_wp2_with fail
        go_ret
        exact ⟨rfl, HB.out⟩
      by_cases c2 : 1048576 < pad
      · have c1' : decide (pad < 0) = false := decide_eq_false c1
        go_wp2_with fail
        refine (long_yes _ c2 _).mono ?_
        rintro _ _ ⟨rfl, rfl⟩
        go_wp2_with fail
        go_ret
        exact ⟨rfl, HB.out⟩
      obtain ⟨pd, rfl⟩ := Int.eq_ofNat_of_zero_le (show 0 ≤ pad by omega)
      have c1' : decide ((pd : Int) < 0) = false := decide_eq_false c1
      have c2' : (pd : Int) ≤ 1048576 := by omega
      obtain ⟨tl, htl⟩ : ∃ tl, (encs os).length = tl := ⟨_, rfl⟩
      rw [htl]
      have Htl := Lib.hid htl
      by_cases c3 : 1048576 < (tl : Int)
      · clear htl hB
        go_wp2_with fail
        refine (long_no _ c2' _).mono ?_
        rintro _ _ ⟨rfl, rfl⟩
        go_wp2_with fail
        refine (long_yes _ c3 _).mono ?_
        rintro _ _ ⟨rfl, rfl⟩
        go_wp2_with fail
        go_ret
        exact ⟨rfl, HB.out⟩
      have c3' : (tl : Int) ≤ 1048576 := by omega
      obtain ⟨q, hq⟩ : ∃ q, tl + pd = q := ⟨_, rfl⟩
      have hqi : (tl : Int) + (pd : Int) = (q : Int) := by omega
      have hqb : q ≤ 2097152 := by omega
      have Hq := Lib.hid hq
      have hz := hB.size
      clear htl hq hB
      go_wp2_with fail
      refine (long_no _ c2' _).mono ?_
      rintro _ _ ⟨rfl, rfl⟩
      go_wp2_with fail
      refine (long_no _ c3' _).mono ?_
      rintro _ _ ⟨rfl, rfl⟩
      go_wp2_with fail
      refine (newWriter_any _ _).mono ?_
      rintro _ w2 ⟨rfl, hW2, hB2⟩
      rw [ws_new q (by omega)] at hW2
      have HB2 := Lib.hid (HB.out.trans (hB2.mono HB.out.size))
      have HA := all_any wr.heap.size none 0 ⟨q, [], 0⟩ a cap w.heap.size os (by rw [Hom.out]; omega) rfl (by show 0 + _ ≤ q; rw [Htl.out]; have := Hq.out; omega) Hs2.out w2 hW2 HB2.out.size hz (fun k hk => by cases hk) (Ho.out.below HB2.out)
      rw [Hom.out] at HA
      simp only [List.nil_append] at HA
      have HA := Lib.hid HA
      have hz2 := Lib.hid hB2.size
      clear hW2 hB2
      go_wp2_with fail
      refine HA.out.mono ?_
      rintro _ w3 ⟨rfl, oa, ca, hW3, hC3, hb3⟩
      have HF := fill_any wr.heap.size oa ca _ (q : Int) (by omega) w3 hW3
      rw [ws_fill _ _ _ _ Htl.out Hq.out] at HF
      have HF := Lib.hid HF
      have HB3 := Lib.hid (HB2.out.trans (hC3.below HB2.out.size (fun k e => e.elim (fun e => by omega) (fun e => by cases e))))
      clear hW3 hC3
      have Hb3 := Lib.hid hb3
      clear hb3
      go_wp2_with fail
      refine HF.out.mono ?_
      rintro _ w4 ⟨rfl, oa4, ca4, hW4, hC4, hb4⟩
      have HB4 := Lib.hid (HB3.out.trans (hC4.below HB3.out.size (fun k e => e.elim (fun e => by omega) (fun e => by
        rcases Hb3.out with h | ⟨k2, h, h2⟩
        · rw [h] at e; cases e
        · rw [h] at e; cases e; have := HB2.out.size; omega))))
      obtain ⟨bs, hbs⟩ : ∃ bs, encs os ++ List.replicate pd 0 = bs := ⟨_, rfl⟩
      rw [hbs] at hW4
      have Hbl := Lib.hid (show bs.length = q by rw [← hbs, List.length_append, List.length_replicate, Htl.out]; exact Hq.out)
      have Hbs := Lib.hid hbs
      have HD := done_ok wr.heap.size oa4 ca4 _ rfl w4 hW4
      have HD := Lib.hid HD
      have HW4 := Lib.hid hW4
      clear hW4 hC4 hb4 hbs
      go_wp2_with fail
      refine HD.out.mono ?_
      rintro _ w5 ⟨oa5, ca5, rfl, hO5, hn5, hB5⟩
      have HL := len_any wr.heap.size oa4 ca4 _ w5 (HW4.out.below hB5)
      have HN := newReader_any oa5 ca5 bs w5 hO5.bts (fun e => (hO5.none_cap e).1) (by rw [Hbl.out]; omega)
      have HB5 := Lib.hid (HB4.out.trans (hB5.mono HB4.out.size))
      simp only at HL
      rw [Hbl.out] at HL HN ⊢
      have HL := Lib.hid HL
      have HN := Lib.hid HN
      have HO5 := Lib.hid hO5
      clear hO5 hn5 hB5
      go_wp2_with fail
      refine HL.out.mono ?_
      rintro _ _ ⟨rfl, rfl⟩
      go_wp2_with fail
      refine HN.out.mono ?_
      rintro _ w6 ⟨p6, a6, c6, rfl, hR6, hp6, hn6, hB6⟩
      have HO6 := Lib.hid (HO5.out.below hB6)
      have HB6 := Lib.hid (HB5.out.trans (hB6.mono HB5.out.size))
      have HR6 := Lib.hid hR6
      have Hp6 := Lib.hid (show ¬ blk oa5 = some p6 from fun e => by have := HO5.out.lt _ e; omega)
      have hp : w.heap.size ≤ p6 := Nat.le_trans HB5.out.size hp6
      clear hR6 hn6 hB6 hp6
      go_wp2_with fail
      go_loopw [13] (fun i wr => RelB2 w p6 a6 os pd oa5 ca5 bs i wr) (fun i _ => m - (intOf i).toNat)
      case atStart => exact ⟨0, a6, c6, Nat.zero_le _, rfl, by rw [List.drop_zero, Hbs.out]; exact HR6.out, rfl, HO6.out, HB6.out⟩
      case round =>
        obtain ⟨k, a7, c7, hk, rfl, hR7, ha7, hO7, hB7⟩ := hrel
        rw [Hom.out] at hk
        have HB7 := Lib.hid hB7
        have HO7 := Lib.hid hO7
        by_cases hlt : k < m
        · obtain ⟨o, hoj⟩ : ∃ o, os[k]? = some o := ⟨_, List.getElem?_eq_getElem (by rw [Hom.out]; exact hlt)⟩
          obtain ⟨bb, off, rfl, hbb, hf, ⟨l0, l1, l2, l3⟩, hbt, hbl⟩ := (Ho.out.below HB7.out).at hoj
          have HK := back_any p6 a7 c7 _ o (encs (os.drop (k + 1)) ++ List.replicate pd 0) (Hs2.out o (List.mem_of_getElem? hoj)) _ hR7 rfl (by show encs _ ++ _ = _; rw [encs_split hoj, List.append_assoc]) hf hbt (hbl.imp id fun h k hk => by have := h k hk; omega)
          simp only [Op2.val] at HK
          have HK := Lib.hid HK
          have Ha7 := Lib.hid ha7
          clear hR7 hf hbt hbl hoj ha7 hO7 hB7
          go_wp2_with fail
          refine HK.out.mono ?_
          rintro _ w8 ⟨rfl, a8, c8, hR8, ha8, hC8⟩
          have HR8 := Lib.hid (show RelB2 w p6 a6 os pd oa5 ca5 bs (.int .i64 ((k + 1 : Nat) : Int)) w8 from ⟨k + 1, a8, c8, by rw [Hom.out]; exact hlt, rfl, hR8, ha8.trans Ha7.out, HO7.out.chg hC8 (fun k hk e => Hp6.out (by rw [hk, e])), HB7.out.trans (hC8.below HB7.out.size fun k e => by omega)⟩)
          clear hR8 ha8 hC8
          go_wp2_with fail
          go_roundw
          case rel => exact HR8.out
          case measure => simp [intOf]; omega
        · have hke : os.drop k = [] := List.drop_eq_nil_of_le (by rw [Hom.out]; omega)
          rw [hke, show encs [] ++ List.replicate pd 0 = List.replicate pd 0 by simp [encs]] at hR7
          have HZ := rzeros_any p6 a7 c7 _ _ hR7
          rw [zeros_end] at HZ
          have HZ := Lib.hid HZ
          clear hR7 hke ha7 hO7 hB7
          go_wp2_with fail
          refine HZ.out.mono ?_
          rintro _ w8 ⟨rfl, a8, c8, hR8, ha8, hC8⟩
          have HB8 := Lib.hid (HB7.out.trans (hC8.below HB7.out.size fun k e => by omega))
          have HO8 := Lib.hid (HO7.out.chg hC8 (fun k hk e => Hp6.out (by rw [hk, e])))
          have HE := end_any p6 a8 c8 _ w8 hR8
          rw [show RS.ending ⟨[], 0⟩ = 0 by simp [RS.ending]] at HE
          have HE := Lib.hid HE
          have HLf := left_any p6 a8 c8 _ w8 hR8
          rw [show (⟨[], 0⟩ : RS).rest.length = 0 from rfl] at HLf
          have HLf := Lib.hid HLf
          clear hR8 ha8 hC8
          go_wp2_with fail
          refine HE.out.mono ?_
          rintro _ _ ⟨rfl, rfl⟩
          go_wp2_with fail
          refine HLf.out.mono ?_
          rintro _ _ ⟨rfl, rfl⟩
          by_cases d1 : n < 0
          · go_wp2_with fail
            go_ret
            exact ⟨rfl, HB8.out⟩
          have d1' : decide (n < 0) = false := decide_eq_false d1
          by_cases d2 : (tl : Int) < n
          · go_wp2_with fail
            go_ret
            exact ⟨rfl, HB8.out⟩
          obtain ⟨nn, rfl⟩ := Int.eq_ofNat_of_zero_le (show 0 ≤ n by omega)
          have d2' : decide ((tl : Int) < (nn : Int)) = false := decide_eq_false d2
          have hnt : nn ≤ tl := by omega
          have hcap := HO8.out.cap.1
          rw [Hbl.out] at hcap
          have hqt : tl ≤ q := by have := Hq.out; omega
          have ext : (encs os).take nn = bs.take nn := by rw [← Hbs.out, List.take_append_of_le_length (by rw [Htl.out]; omega)]
          have hxl : (bs.take nn).length = nn := by rw [List.length_take, Hbl.out]; omega
          have hbt : Bts w8 oa5 (bs.take nn) := by
            rcases HO8.out.bts with h | ⟨b, off, h1, h2, h3⟩
            · exact .inl (by rw [h]; simp)
            · refine .inr ⟨b, off, h1, h2, fun i hi => ?_⟩
              rw [hxl] at hi
              rw [h3 i (by rw [Hbl.out]; omega)]
              simp [List.getD_eq_getElem?_getD, List.getElem?_take_of_lt hi]
          have HSh := short_all (bs.take nn) os w.heap.size oa5 a ca5 cap (by rw [Hom.out]; omega) (by rw [Htl.out]; omega) (by rw [hxl]; omega) (by rw [hxl]; exact ext.symm) Hs2.out w8 HB8.out.size hbt (fun e => (HO8.out.none_cap e).1) (Ho.out.below HB8.out)
          rw [hxl, Hom.out] at HSh
          have HSh := Lib.hid HSh
          clear hbt hxl ext
          go_wp2_with fail
          refine HSh.out.mono ?_
          rintro _ w9 ⟨rfl, hB9⟩
          have HB9 := Lib.hid (HB8.out.trans (hB9.mono HB8.out.size))
          clear hB9
          go_wp2_with fail
          go_ret
          exact ⟨rfl, HB9.out⟩

theorem wireBack_walk (a : Option Addr) (len cap : Nat) (pad n : Int) (w : World) (hr : IsOps w a len) (hl : len ≤ cap) :
    Calls Try.prog 6 #[.slice a len cap, .int .i64 pad, .int .i64 n] w fun e w' => e = .returned (.bool true) ∧ Below w.heap.size w w' := by
  obtain ⟨os, h1, h2⟩ := hr.list
  by_cases h : len ≤ 300
  · exact wireBack_all os a len len cap pad n w h1 h2 h hl (by rw [if_neg (by omega)])
  · exact wireBack_all (os.take 300) a len 300 cap pad n w (by rw [List.length_take]; omega) (h2.take 300) (Nat.le_refl _) (by omega) (by rw [if_pos (by omega)]; rfl)
end Go.Proofs.Ytofialinjbjcmaa

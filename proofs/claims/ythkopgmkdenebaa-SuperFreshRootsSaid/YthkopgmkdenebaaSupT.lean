/- The walk of the document's Decode of chapter 9. -/
import Derived.Test.YthkopgmkdenebaaSupB
import Derived.Test.YthkopgmkdenebaaSupN
import Derived.Test.YthkopgmkdenebaaSupQ
import Derived.Test.YthkopgmkdenebaaHeldE
namespace Go.Proofs.Ythkopgmkdenebaa
open Go.RowKit
set_option linter.unusedVariables false
set_option maxRecDepth 100000

theorem fld_lt (bs : List UInt8) (o k : Nat) : fld bs o k < 256 ^ k := by
  have := unle_lt ((bs.drop o).take k)
  rw [List.length_take] at this
  exact Nat.lt_of_lt_of_le this (Nat.pow_le_pow_right (by omega) (by omega))
theorem numAt_4 (bs : List UInt8) (o : Nat) : numAt bs o 4 = (fld bs o 4 : Int) := by
  have := fld_lt bs o 4
  unfold numAt wrap64; omega
theorem numAt_1 (bs : List UInt8) (o : Nat) : numAt bs o 1 = (fld bs o 1 : Int) := by
  have := fld_lt bs o 1
  unfold numAt wrap64; omega
/-- so many roots that bytes say -/
def rootsAt (bs : List UInt8) (k : Nat) : List RT := (List.range k).map fun i => rootOf bs (26 + 13 * i)
theorem rootsAt_snoc (bs : List UInt8) (k : Nat) : rootsAt bs (k + 1) = rootsAt bs k ++ [rootOf bs (26 + 13 * k)] := by simp [rootsAt, List.range_succ]
theorem rootsAt_length (bs : List UInt8) (k : Nat) : (rootsAt bs k).length = k := by simp [rootsAt]
theorem sread_eq (bs : List UInt8) : sread bs = ⟨numAt bs 4 8, ⟨fld bs 12 4, fld bs 16 1, fld bs 17 4⟩, fld bs 21 4, rootsAt bs (fld bs 25 1)⟩ := by
  unfold sread numAt rootsAt
  rw [IntWalk.i64_left]
def RelT (W : World) (g : Nat) (bs : List UInt8) (gen bl cl re nx : Int) (n : Nat) (i : Value) (wr : World) : Prop :=
  ∃ k : Nat, k ≤ n ∧ i = .int .i64 k ∧ ∃ oa oc, wr.heap[g]? = some (sBox gen bl cl re nx oa k oc) ∧ OR eRt wr oa oc k (cellsR (rootsAt bs k)) ∧ (∀ j, blk oa = some j → g < j) ∧ Chg (fun j => g ≤ j) W wr

set_option maxHeartbeats 4000000 in
theorem dDecode_any (bs : List UInt8) (a : Option Addr) (cap : Nat) (w : World) (hb : Bts w a bs) (hcap : bs.length ≤ cap) (hl : bs.length ≤ 140737488355328) :
    Calls Try.prog 25 #[.slice a bs.length cap] w (Decs (sdec bs) w) := by
  by_cases h5 : bs.length = 512
  · have hne : bs ≠ [] := fun e => by rw [e] at h5; simp at h5
    obtain ⟨b0, off, rfl, hb0, -⟩ := hb.resolve_left hne
    have hbB := one_below w (sBox 0 0 0 0 0 none 0 0)
    obtain ⟨lo, hlo⟩ : ∃ lo, lo = w.heap.size + 1 := ⟨_, rfl⟩
    have hsz : (w.alloc (sBox 0 0 0 0 0 none 0 0)).heap.size = lo := by rw [hlo]; simp
    have Hbt := Lib.hid fun (w' : World) (h : Below lo (w.alloc (sBox 0 0 0 0 0 none 0 0)) w') => (hb.below hbB).below (by rw [hsz]; exact h)
    have HB0 := Lib.hid hbB
    have Hg0 := Lib.hid (heap_alloc_new w (sBox 0 0 0 0 0 none 0 0))
    have HN := fun (w' : World) (h : Below lo (w.alloc (sBox 0 0 0 0 0 none 0 0)) w') o n (ho : o + n ≤ 512) (hn : n ≤ 8) => dNumber_any bs o n (by omega) hn hl (some ⟨b0, off, none⟩) cap w' (Hbt.out w' h)
    have htl : (bs.take 508).length = 508 := by rw [List.length_take, h5]; rfl
    have H2 : ∀ w', Below lo (w.alloc (sBox 0 0 0 0 0 none 0 0)) w' → Calls Try.prog 60 #[.slice (some ⟨b0, off, none⟩) 508 cap] w' fun e w'' => e = .returned (.int .u32 (Crc.ofs (bs.take 508))) ∧ w'' = w' := fun w' h => by
      have := refOf_any (bs.take 508) (some ⟨b0, off, none⟩) cap (by omega) w' ((Hbt.out w' h).takeN 508)
      rw [htl] at this
      exact this.mono fun e w'' g => ⟨g.1, g.2.symm⟩
    rw [h5] at HN ⊢
    have hdr : unle (bs.drop 508) = fld bs 508 4 := by
      rw [fld, List.take_of_length_le (by rw [List.length_drop]; omega)]
    have HD := Lib.hid (show sdec bs = if fld bs 508 4 ≠ Crc.ofs (bs.take 508) then (6, zeroS) else if scheck (sread bs) = 0 ∧ laid (sread bs) = bs then (0, sread bs) else (5, zeroS) by rw [sdec, if_neg (by simpa using h5), hdr])
    have hsl := Crc.ofs_lt (bs.take 508)
    have hfl := fld_lt bs 508 4
    have HN1 := fun w' h => HN w' h 508 4 (by omega) (by omega)
    rw [numAt_4] at HN1
    generalize Crc.ofs (bs.take 508) = sm at H2 HD hsl
    generalize fld bs 508 4 = sv at HN1 HD hfl
    have Hsz := Lib.hid hsz
    have HN := Lib.hid HN
    have HN1 := Lib.hid HN1
    have H2 := Lib.hid H2
    have hcapp : (508 : Int) ≤ (cap : Int) := by have := hcap; omega
    unfold sBox at HN HN1 H2 Hsz
    clear hb hbB hsz htl hdr
    go_enter Try.func25, Try.ntmps25
    go_wp2_with fail
    have HNq := Lib.hid fun n => HN1.out _ (below_drewN (Below.refl lo (w.alloc (.cells #[.int .i64 0, .int .i64 0, .int .i64 0, .int .i64 0, .int .i64 0, .slice none 0 0] 33))) n)
    have H2q := Lib.hid fun n => H2.out _ (below_drewN (Below.refl lo (w.alloc (.cells #[.int .i64 0, .int .i64 0, .int .i64 0, .int .i64 0, .int .i64 0, .slice none 0 0] 33))) n)
    unfold sBox at HB0 Hg0 Hbt
    generalize w.alloc (.cells #[.int .i64 0, .int .i64 0, .int .i64 0, .int .i64 0, .int .i64 0, .slice none 0 0] 33) = W0 at *
    go_quiet (first | exact Calls.quiet_of_same (HNq.out _) | exact Calls.quiet_of_same (H2q.out _))
    have hlow : w.heap.size < lo := by omega
    by_cases hss : sv = sm
    · rw [if_neg (by simpa using hss)] at HD
      subst hss
      have hbb : ((sv : Int) != (sv : Int)) = false := by simp
      have hB0d := HB0.out
      generalize hWd : W0.drewN nq = W1 at *
      have hB1 : Below lo W0 W1 := by rw [← hWd]; exact below_drewN (Below.refl _ _) _
      have hg1 : W1.heap[w.heap.size]? = some (.cells #[.int .i64 0, .int .i64 0, .int .i64 0, .int .i64 0, .int .i64 0, .slice none 0 0] 33) := (hB1.block _ (by omega)).trans Hg0.out
      have HB1 := Lib.hid hB1
      have Hg1 := Lib.hid hg1
      have HNg := Lib.hid (show ∀ w', Below lo W0 w' → Calls Try.prog 59 #[.slice (some ⟨b0, off, none⟩) 512 cap, .int .i64 4, .int .i64 8] w' fun e w'' => e = .returned (.int .i64 (numAt bs 4 8)) ∧ w' = w'' from fun w' h => by
        have := HN.out w' h 4 8 (by omega) (by omega)
        exact this.mono fun e w'' g => ⟨g.1, g.2.symm⟩)
      have HNn := Lib.hid (show ∀ w', Below lo W0 w' → Calls Try.prog 59 #[.slice (some ⟨b0, off, none⟩) 512 cap, .int .i64 21, .int .i64 4] w' fun e w'' => e = .returned (.int .i64 ((fld bs 21 4 : Int))) ∧ w' = w'' from fun w' h => by
        have := HN.out w' h 21 4 (by omega) (by omega)
        rw [numAt_4] at this; exact this.mono fun e w'' g => ⟨g.1, g.2.symm⟩)
      have HNb := Lib.hid (show ∀ w', Below lo W0 w' → Calls Try.prog 59 #[.slice (some ⟨b0, off, none⟩) 512 cap, .int .i64 12, .int .i64 4] w' fun e w'' => e = .returned (.int .i64 ((fld bs 12 4 : Int))) ∧ w' = w'' from fun w' h => by
        have := HN.out w' h 12 4 (by omega) (by omega)
        rw [numAt_4] at this; exact this.mono fun e w'' g => ⟨g.1, g.2.symm⟩)
      have HNc := Lib.hid (show ∀ w', Below lo W0 w' → Calls Try.prog 59 #[.slice (some ⟨b0, off, none⟩) 512 cap, .int .i64 16, .int .i64 1] w' fun e w'' => e = .returned (.int .i64 ((fld bs 16 1 : Int))) ∧ w' = w'' from fun w' h => by
        have := HN.out w' h 16 1 (by omega) (by omega)
        rw [numAt_1] at this; exact this.mono fun e w'' g => ⟨g.1, g.2.symm⟩)
      have HNr := Lib.hid (show ∀ w', Below lo W0 w' → Calls Try.prog 59 #[.slice (some ⟨b0, off, none⟩) 512 cap, .int .i64 17, .int .i64 4] w' fun e w'' => e = .returned (.int .i64 ((fld bs 17 4 : Int))) ∧ w' = w'' from fun w' h => by
        have := HN.out w' h 17 4 (by omega) (by omega)
        rw [numAt_4] at this; exact this.mono fun e w'' g => ⟨g.1, g.2.symm⟩)
      have HNk := Lib.hid (show ∀ w', Below lo W0 w' → Calls Try.prog 59 #[.slice (some ⟨b0, off, none⟩) 512 cap, .int .i64 25, .int .i64 1] w' fun e w'' => e = .returned (.int .i64 ((fld bs 25 1 : Int))) ∧ w' = w'' from fun w' h => by
        have := HN.out w' h 25 1 (by omega) (by omega)
        rw [numAt_1] at this; exact this.mono fun e w'' g => ⟨g.1, g.2.symm⟩)
      have hnk := fld_lt bs 25 1
      have hsr := sread_eq bs
      have hq1 := fld_lt bs 21 4
      have hq2 := fld_lt bs 12 4
      have hq3 := fld_lt bs 16 1
      have hq4 := fld_lt bs 17 4
      have hgi : i64ok (numAt bs 4 8) := by unfold numAt i64ok wrap64; omega
      generalize numAt bs 4 8 = gen at HNg hsr hgi
      generalize fld bs 21 4 = nx at HNn hsr hq1
      generalize fld bs 12 4 = bl at HNb hsr hq2
      generalize fld bs 16 1 = cl at HNc hsr hq3
      generalize fld bs 17 4 = re at HNr hsr hq4
      generalize fld bs 25 1 = n at HNk hsr hnk
      have Hsr := Lib.hid hsr
      clear hg1 hB1 hWd hB0d HNq H2q HN1 H2 hsr
      go_wp2_with fail
      refine (HNg.out _ HB1.out).mono ?_
      rintro _ _ ⟨rfl, rfl⟩
      go_wp2_with fail
      refine (HNn.out _ HB1.out).mono ?_
      rintro _ _ ⟨rfl, rfl⟩
      have hz1 := HB1.out.size
      have hzz : lo ≤ W1.heap.size := by have := Hsz.out; omega
      have hB2 := HB1.out.alloc hzz (.cells #[.int .i64 gen, .int .i64 0, .int .i64 0, .int .i64 0, .int .i64 (nx : Int), .slice none 0 0] 33)
      have HB2 := Lib.hid hB2
      go_wp2_with fail
      refine (HNb.out _ HB2.out).mono ?_
      rintro _ _ ⟨rfl, rfl⟩
      go_wp2_with fail
      refine (HNc.out _ HB2.out).mono ?_
      rintro _ _ ⟨rfl, rfl⟩
      go_wp2_with fail
      refine (HNr.out _ HB2.out).mono ?_
      rintro _ _ ⟨rfl, rfl⟩
      have HB3 := Lib.hid (HB1.out.alloc hzz (.cells #[.int .i64 gen, .int .i64 (bl : Int), .int .i64 (cl : Int), .int .i64 (re : Int), .int .i64 (nx : Int), .slice none 0 0] 33))
      go_wp2_with fail
      refine (HNk.out _ HB3.out).mono ?_
      rintro _ _ ⟨rfl, rfl⟩
      clear hB2
      by_cases hn16 : n ≤ 16
      · go_wp2_with fail
        have hS3 : (W1.alloc (.cells #[.int .i64 gen, .int .i64 (bl : Int), .int .i64 (cl : Int), .int .i64 (re : Int), .int .i64 (nx : Int), .slice none 0 0] 33)).heap[W1.heap.size]? = some (sBox gen bl cl re nx none 0 0) := heap_alloc_new W1 _
        have hz3 : W1.heap.size < (W1.alloc (.cells #[.int .i64 gen, .int .i64 (bl : Int), .int .i64 (cl : Int), .int .i64 (re : Int), .int .i64 (nx : Int), .slice none 0 0] 33)).heap.size := by simp
        have HS3 := Lib.hid hS3
        clear hS3
        generalize W1.alloc (.cells #[.int .i64 gen, .int .i64 (bl : Int), .int .i64 (cl : Int), .int .i64 (re : Int), .int .i64 (nx : Int), .slice none 0 0] 33) = W3 at *
        go_loopw [6] (fun i wr => RelT W3 W1.heap.size bs gen bl cl re nx n i wr) (fun i _ => n - (intOf i).toNat)
        case atStart => exact ⟨0, Nat.zero_le _, rfl, none, 0, HS3.out, OR.nil _ _, (fun j hj => by cases hj), Chg.refl _ _⟩
        case round =>
          obtain ⟨k, hk, rfl, oa, oc, hS, hO, hof, hC⟩ := hrel
          have hbw : Below lo W0 wr := HB3.out.trans (hC.below (by omega) (fun j hj => by omega))
          by_cases hlt : k < n
          · have N4 := Lib.hid (show ∀ w', Below lo W0 w' → Calls Try.prog 59 #[.slice (some ⟨b0, off, none⟩) 512 cap, .int .i64 (26 + 13 * (k : Int) + 4), .int .i64 4] w' fun e w'' => e = .returned (.int .i64 (fld bs (26 + 13 * k + 4) 4 : Int)) ∧ w' = w'' from fun w' h => by
              have := HN.out w' h (26 + 13 * k + 4) 4 (by omega) (by omega)
              rw [numAt_4] at this; exact this.mono fun e w'' g => ⟨g.1, g.2.symm⟩)
            have N8 := Lib.hid (show ∀ w', Below lo W0 w' → Calls Try.prog 59 #[.slice (some ⟨b0, off, none⟩) 512 cap, .int .i64 (26 + 13 * (k : Int) + 8), .int .i64 1] w' fun e w'' => e = .returned (.int .i64 (fld bs (26 + 13 * k + 8) 1 : Int)) ∧ w' = w'' from fun w' h => by
              have := HN.out w' h (26 + 13 * k + 8) 1 (by omega) (by omega)
              rw [numAt_1] at this; exact this.mono fun e w'' g => ⟨g.1, g.2.symm⟩)
            have N9 := Lib.hid (show ∀ w', Below lo W0 w' → Calls Try.prog 59 #[.slice (some ⟨b0, off, none⟩) 512 cap, .int .i64 (26 + 13 * (k : Int) + 9), .int .i64 4] w' fun e w'' => e = .returned (.int .i64 (fld bs (26 + 13 * k + 9) 4 : Int)) ∧ w' = w'' from fun w' h => by
              have := HN.out w' h (26 + 13 * k + 9) 4 (by omega) (by omega)
              rw [numAt_4] at this; exact this.mono fun e w'' g => ⟨g.1, g.2.symm⟩)
            have N0 := Lib.hid (show ∀ w', Below lo W0 w' → Calls Try.prog 59 #[.slice (some ⟨b0, off, none⟩) 512 cap, .int .i64 (26 + 13 * (k : Int)), .int .i64 4] w' fun e w'' => e = .returned (.int .i64 (fld bs (26 + 13 * k) 4 : Int)) ∧ w' = w'' from fun w' h => by
              have := HN.out w' h (26 + 13 * k) 4 (by omega) (by omega)
              rw [numAt_4] at this; exact this.mono fun e w'' g => ⟨g.1, g.2.symm⟩)
            have Hsn := Lib.hid (rootsAt_snoc bs k)
            have hro : rootOf bs (26 + 13 * k) = ⟨fld bs (26 + 13 * k) 4, fld bs (26 + 13 * k + 4) 4, fld bs (26 + 13 * k + 8) 1, fld bs (26 + 13 * k + 9) 4⟩ := rfl
            rw [hro] at Hsn
            generalize fld bs (26 + 13 * k) 4 = id at N0 Hsn
            generalize fld bs (26 + 13 * k + 4) 4 = ro at N4 Hsn
            generalize fld bs (26 + 13 * k + 8) 1 = he at N8 Hsn
            generalize fld bs (26 + 13 * k + 9) 4 = it at N9 Hsn
            have hzw : lo ≤ wr.heap.size := by have := hC.size; omega
            have hbt := hbw.alloc hzw (.cells #[.int .i64 (ro : Int), .int .i64 (he : Int), .int .i64 (it : Int)] 48)
            have Hbw := Lib.hid hbw
            have Hbt2 := Lib.hid hbt
            have HS := Lib.hid hS
            have HO := Lib.hid hO
            have Hof := Lib.hid hof
            have HC := Lib.hid hC
            clear hro hbw hbt hS hO hof hC
            go_wp2_with fail
            refine (N4.out _ Hbw.out).mono ?_
            rintro _ _ ⟨rfl, rfl⟩
            go_wp2_with fail
            refine (N8.out _ Hbw.out).mono ?_
            rintro _ _ ⟨rfl, rfl⟩
            go_wp2_with fail
            refine (N9.out _ Hbw.out).mono ?_
            rintro _ _ ⟨rfl, rfl⟩
            go_wp2_with fail
            have hwv : W1.heap.size < wr.heap.size := Nat.lt_of_lt_of_le hz3 HC.out.size
            have hS5 := ((one_below wr (.cells #[.int .i64 (ro : Int), .int .i64 (he : Int), .int .i64 (it : Int)] 48)).block _ hwv).trans HS.out
            have hO5 := OR.chg (F := fun _ => False) HO.out (Chg.of_below (one_below wr (.cells #[.int .i64 (ro : Int), .int .i64 (he : Int), .int .i64 (it : Int)] 48))) (fun _ _ f => f)
            have hC5 := HC.out.trans (Chg.of_below (F := fun j => W1.heap.size ≤ j) (one_below wr (.cells #[.int .i64 (ro : Int), .int .i64 (he : Int), .int .i64 (it : Int)] 48))) (fun i _ e => e)
            have ht5 := heap_alloc_new wr (.cells #[.int .i64 (ro : Int), .int .i64 (he : Int), .int .i64 (it : Int)] 48)
            obtain ⟨t0, t1, t2, -⟩ := cells3 (heap_alloc_new wr (.cells #[.int .i64 (ro : Int), .int .i64 (he : Int), .int .i64 (it : Int)] 48))
            have hz5 : wr.heap.size < (wr.alloc (.cells #[.int .i64 (ro : Int), .int .i64 (he : Int), .int .i64 (it : Int)] 48)).heap.size := by simp
            generalize wr.alloc (.cells #[.int .i64 (ro : Int), .int .i64 (he : Int), .int .i64 (it : Int)] 48) = W5 at *
            obtain ⟨y0, y1, y2, y3, y4, y5, -⟩ := cells6 hS5
            have hb6 : Below W5.heap.size W5 (W5.alloc (.cells #[.int .i64 (id : Int), .int .i64 (ro : Int), .int .i64 (he : Int), .int .i64 (it : Int)] 50)).drew := ((Below.refl _ _).alloc (Nat.le_refl _) _).drew
            have hnew : (W5.alloc (.cells #[.int .i64 (id : Int), .int .i64 (ro : Int), .int .i64 (he : Int), .int .i64 (it : Int)] 50)).drew.heap[W5.heap.size]? = some (.cells #[.int .i64 (id : Int), .int .i64 (ro : Int), .int .i64 (he : Int), .int .i64 (it : Int)] 50) := heap_alloc_new W5 _
            obtain ⟨n0, n1, n2, n3, -⟩ := cells4 hnew
            have HNW := Lib.hid (news4 n0 n1 n2 n3)
            have HO6 := Lib.hid (OR.chg (F := fun _ => False) hO5 (Chg.of_below hb6) (fun _ _ f => f))
            have HC6 := Lib.hid (hC5.trans (Chg.of_below (F := fun j => W1.heap.size ≤ j) hb6) (fun i _ e => e))
            have hw5 : W1.heap.size < W5.heap.size := Nat.lt_trans hwv hz5
            have HS6 := Lib.hid ((hb6.block _ hw5).trans hS5)
            have hz6 : W5.heap.size < (W5.alloc (.cells #[.int .i64 (id : Int), .int .i64 (ro : Int), .int .i64 (he : Int), .int .i64 (it : Int)] 50)).drew.heap.size := lt_of_heap hnew
            have HSf := Lib.hid (show (fun w' : World => w'.cell? ⟨W1.heap.size, 5, none⟩ = some (.slice oa k oc) ∧ (w'.cell? ⟨wr.heap.size, 0, none⟩ = some (.int .i64 (ro : Int)) ∧ w'.cell? ⟨wr.heap.size, 1, none⟩ = some (.int .i64 (he : Int)) ∧ w'.cell? ⟨wr.heap.size, 2, none⟩ = some (.int .i64 (it : Int)))) (W5.alloc (.cells #[.int .i64 (id : Int), .int .i64 (ro : Int), .int .i64 (he : Int), .int .i64 (it : Int)] 50)).drew from ⟨(cells6 HS6.out).2.2.2.2.2.1, (cells3 ((hb6.block _ hz5).trans ht5)).1, (cells3 ((hb6.block _ hz5).trans ht5)).2.1, (cells3 ((hb6.block _ hz5).trans ht5)).2.2.1⟩)
            clear hS5 hO5 hC5 hb6 hnew n0 n1 n2 n3 ht5
            have Hd5 := Lib.hid Hbt2.out.drew
            have HSe := Lib.hid (show (fun w' : World => w'.cell? ⟨W1.heap.size, 5, none⟩ = some (.slice oa k oc) ∧ (w'.cell? ⟨wr.heap.size, 0, none⟩ = some (.int .i64 (ro : Int)) ∧ w'.cell? ⟨wr.heap.size, 1, none⟩ = some (.int .i64 (he : Int)) ∧ w'.cell? ⟨wr.heap.size, 2, none⟩ = some (.int .i64 (it : Int)))) W5.drew from ⟨y5, t0, t1, t2⟩)
            refine wp_region_E (fun w' : World => w'.cell? ⟨W1.heap.size, 5, none⟩ = some (.slice oa k oc) ∧ (w'.cell? ⟨wr.heap.size, 0, none⟩ = some (.int .i64 (ro : Int)) ∧ w'.cell? ⟨wr.heap.size, 1, none⟩ = some (.int .i64 (he : Int)) ∧ w'.cell? ⟨wr.heap.size, 2, none⟩ = some (.int .i64 (it : Int)))) 8 (by kernel_rfl) (by kernel_rfl) ?_
            change At _ _ _ _ _ _ 11 #[false, false, false, false, false, false, false, false, false, false, false] _ _
            refine at_take 0 (v := ?_) rfl (by decide) (by kernel_rfl) (by kernel_rfl) (fun _ _ _ h => h) (Or.inl ⟨by rfl, ?_⟩) HSe.out ?_
            rotate_left
            · intro w' hSw; (try dsimp only at hSw); go_simp; (try with_reducible rfl)
            simp only [Act.put, List.setIfInBounds_toArray, List.set_cons_zero, List.set_cons_succ]
            refine at_take 1 (v := ?_) rfl (by decide) (by kernel_rfl) (by kernel_rfl) (fun _ _ _ h => h) (Or.inl ⟨by rfl, ?_⟩) HSe.out ?_
            rotate_left
            · intro w' hSw; (try dsimp only at hSw); go_simp; (try with_reducible rfl)
            simp only [Act.put, List.setIfInBounds_toArray, List.set_cons_zero, List.set_cons_succ]
            refine at_take 2 (v := ?_) rfl (by decide) (by kernel_rfl) (by kernel_rfl) (fun _ _ _ h => h) (Or.inl ⟨by rfl, ?_⟩) HSe.out ?_
            rotate_left
            · intro w' hSw; (try dsimp only at hSw); go_simp; (try with_reducible rfl)
            simp only [Act.put, List.setIfInBounds_toArray, List.set_cons_zero, List.set_cons_succ]
            refine at_take 3 (v := ?_) rfl (by decide) (by kernel_rfl) (by kernel_rfl) (fun _ _ _ h => h) (Or.inl ⟨by rfl, ?_⟩) HSe.out ?_
            rotate_left
            · intro w' hSw; (try dsimp only at hSw); go_simp; (try with_reducible rfl)
            simp only [Act.put, List.setIfInBounds_toArray, List.set_cons_zero, List.set_cons_succ]
            refine at_take 5 (v := ?_) rfl (by decide) (by kernel_rfl) (by kernel_rfl) (fun _ _ _ h => h) (Or.inl ⟨by rfl, ?_⟩) HSe.out ?_
            rotate_left
            · intro w' hSw; (try dsimp only at hSw); go_simp; (try with_reducible rfl)
            simp only [Act.put, List.setIfInBounds_toArray, List.set_cons_zero, List.set_cons_succ]
            refine at_only 4 rfl (by decide) (by kernel_rfl) (by rfl) ?_
            intro K hK
            go_simp
            refine (N0.out _ Hd5.out).mono ?_
            rintro _ _ ⟨rfl, rfl⟩
            go_simp
            refine hK _ _ HSe.out ?_
            clear hK K
            simp only [List.setIfInBounds_toArray, List.set_cons_zero, List.set_cons_succ]
            refine at_take 6 (v := ?_) rfl (by decide) (by kernel_rfl) (by kernel_rfl) (fun _ _ _ h => h) (Or.inl ⟨by rfl, ?_⟩) HSe.out ?_
            rotate_left
            · intro w' hSw; (try dsimp only at hSw); go_simp; (try with_reducible rfl)
            simp only [Act.put, List.setIfInBounds_toArray, List.set_cons_zero, List.set_cons_succ]
            refine at_only 7 rfl (by decide) (by kernel_rfl) (by rfl) ?_
            intro K hK
            go_simp
            refine hK _ _ HSf.out ?_
            clear hK K
            simp only [List.setIfInBounds_toArray, List.set_cons_zero, List.set_cons_succ]
            refine at_tail rfl (by kernel_rfl) ?_
            simp only [List.drop_succ_cons, List.drop_zero]
            go_wp2_with (at_builtin; go_must (refine wpList_append_or eRt rfl (.tmp 61) (.tmp 67) rfl (n := k) (cs := cellsR (rootsAt bs k)) rfl HO6.out rfl (m := 1) (news := [.int .i64 (id : Int), .int .i64 (ro : Int), .int .i64 (he : Int), .int .i64 (it : Int)]) rfl (.inr ⟨_, rfl, HNW.out⟩) (by simp [Value.oneCell']) (by show (k + 1) * 32 ≤ _; omega) (by omega) ?_)
                         intro oa7 oc7 w7 hO7 hC7 hb7 _
                         have hS7 := (hC7.block W1.heap.size (by omega) (fun e => by have := Hof.out _ e; omega)).trans HS6.out
                         have HS7 := Lib.hid (set_row hS7 5 (.slice oa7 (k + 1) oc7))
                         have HO7 := Lib.hid hO7
                         have HC7 := Lib.hid hC7
                         have Hb7 := Lib.hid hb7
                         obtain ⟨s0, s1', s2', s3', s4', s5', sf⟩ := cells6 hS7
                         have sf5 := sf 5
                         clear hS7 hO7 hC7 hb7 sf)
            have e2 : cellsR (rootsAt bs (k + 1)) = cellsR (rootsAt bs k) ++ [.int .i64 (id : Int), .int .i64 (ro : Int), .int .i64 (he : Int), .int .i64 (it : Int)] := by
              rw [Hsn.out]; simp [cellsR]
            have hof5 : ∀ j, blk oa7 = some j → W1.heap.size < j := fun j hj => by
              rcases Hb7.out with e | e
              · exact Hof.out j (e ▸ hj)
              · rw [e] at hj; cases hj; omega
            refine ⟨⟨k + 1, by omega, by go_num, oa7, oc7, HS7.out.trans rfl, by rw [e2]; exact HO7.out.chg (Chg.set w7 ⟨W1.heap.size, 5, none⟩ _) (fun j hj (e : j = _) => by have := hof5 j hj; subst e; exact absurd this (Nat.lt_irrefl _)), hof5, ?_⟩, by simp [intOf]; omega⟩
            exact (HC6.out.trans HC7.out (fun j _ e => by have := Hof.out j e; omega)).setCell ⟨W1.heap.size, 5, none⟩ _ (fun _ => Nat.le_refl _)
          · obtain rfl : k = n := by omega
            have hg9 := (hbw.block w.heap.size (by omega)).trans Hg0.out
            obtain ⟨y0, y1, y2, y3, y4, y5, -⟩ := cells6 hS
            have Hbw := Lib.hid hbw
            have HBr := Lib.hid (HB0.out.trans (hbw.mono (by omega)))
            have HS := Lib.hid hS
            have HO := Lib.hid hO
            have Hof := Lib.hid (show ∀ j, blk oa = some j → w.heap.size < j from fun j hj => by have := hof j hj; omega)
            have hsp : SpAt wr.heap.size wr (sread bs) oa oc := by
              rw [Hsr.out]
              have ho : ORt wr oa oc (rootsAt bs k) := by unfold ORt; rw [rootsAt_length]; exact hO
              refine ⟨ho.rts, ?_, by simp only [rootsAt_length]; omega, ho.nilcap, by simp only; exact hgi, ?_, ?_, ?_, ?_⟩
              · intro x hx
                simp only [rootsAt, List.mem_map] at hx
                obtain ⟨i, -, rfl⟩ := hx
                have q1 := fld_lt bs (26 + 13 * i) 4
                have q2 := fld_lt bs (26 + 13 * i + 4) 4
                have q3 := fld_lt bs (26 + 13 * i + 8) 1
                have q4 := fld_lt bs (26 + 13 * i + 9) 4
                simp only [rootOf, RT.ok, i64ok]; omega
              all_goals (simp only [i64ok]; omega)
            have hv : spv (sread bs) oa oc = .agg #[.int .i64 gen, .int .i64 (bl : Int), .int .i64 (cl : Int), .int .i64 (re : Int), .int .i64 (nx : Int), .slice oa k oc] := by
              rw [Hsr.out, spv]; simp only [rootsAt_length]
            have HC := Lib.hid (dCheck_any (sread bs) oa oc wr _ (Nat.le_refl _) hsp)
            rw [hv] at HC
            have hrt : (sread bs).roots = rootsAt bs k := by rw [Hsr.out]
            unfold Checked at HC
            obtain ⟨r0, r1, r2, r3, r4, r5, rf⟩ := cells6 hg9
            have Hg9 := Lib.hid hg9
            have hle := scheck_le (sread bs)
            clear hg9 rf r0 r1 r2 r3 r4 r5
            go_wp2_with fail
            refine HC.out.mono ?_
            clear HC
            rintro _ w7 ⟨rfl, hb7⟩
            have HG7 := Lib.hid ((hb7.block w.heap.size (lt_of_heap Hg9.out)).trans Hg9.out)
            have HS7 := Lib.hid ((hb7.block _ (lt_of_heap HS.out)).trans HS.out)
            have HB7 := Lib.hid (HBr.out.trans (hb7.mono HBr.out.size))
            have Hsp7 := Lib.hid (hsp.below hb7)
            have HO7 := Lib.hid (OR.chg (F := fun _ => False) HO.out (Chg.of_below hb7) (fun _ _ f => f))
            have Hbt7 := Lib.hid ((Hbt.out _ Hbw.out).below hb7)
            clear y0 y1 y2 y3 y4 y5
            by_cases hsc : scheck (sread bs) = 0
            · have hR := scheck_ok.1 hsc
              have hll := laid_length hR
              have HL := dLaid_any (sread bs) hR oa oc w7 wr.heap.size hb7.size Hsp7.out
              rw [hv] at HL
              unfold LaidB at HL
              have HL := Lib.hid HL
              rw [hsc]
              obtain ⟨y0, y1, y2, y3, y4, y5, -⟩ := cells6 HS7.out
              have Hrs := Lib.hid hrt
              have hv9 := Lib.hid hv
              clear hsp hv hrt hle hb7
              go_wp2_with fail
              refine HL.out.mono ?_
              clear HL
              rintro _ w8 ⟨la, lc, rfl, hL8, hlf, hb8⟩
              have HE := eqBytes_any (laid (sread bs)) bs la (some ⟨b0, off, none⟩) lc cap (by omega) (by omega) w8 hL8.bts (Hbt7.out.below hb8)
              rw [hll, h5] at HE
              unfold Same at HE
              have HE := Lib.hid HE
              have HG8 := Lib.hid ((hb8.block w.heap.size (lt_of_heap HG7.out)).trans HG7.out)
              have HS8 := Lib.hid ((hb8.block _ (lt_of_heap HS7.out)).trans HS7.out)
              have HB8 := Lib.hid (HB7.out.trans (hb8.mono HB7.out.size))
              have HO8 := Lib.hid (OR.chg (F := fun _ => False) HO7.out (Chg.of_below hb8) (fun _ _ f => f))
              clear hL8 hlf hb8 y0 y1 y2 y3 y4 y5 hR hll
              obtain ⟨y0, y1, y2, y3, y4, y5, -⟩ := cells6 HS8.out
              obtain ⟨r0, r1, r2, r3, r4, r5, rf⟩ := cells6 HG8.out
              have f0 := rf 0
              have f1 := rf 1
              have f2 := rf 2
              have f3 := rf 3
              have f4 := rf 4
              have f5 := rf 5
              clear rf
              by_cases hq : laid (sread bs) = bs
              · have HF := Lib.hid (show sdec bs = (0, sread bs) by rw [HD.out, if_pos ⟨hsc, hq⟩])
                rw [decide_eq_true hq] at HE
                clear hq hsc
                go_wp2_with fail
                refine HE.out.mono ?_
                clear HE
                rintro _ w9 ⟨rfl, hb9⟩
                have HG9 := Lib.hid ((hb9.block w.heap.size (lt_of_heap HG8.out)).trans HG8.out)
                have HS9 := Lib.hid ((hb9.block _ (lt_of_heap HS8.out)).trans HS8.out)
                have HB9 := Lib.hid (HB8.out.trans (hb9.mono HB8.out.size))
                have HO9 := Lib.hid (OR.chg (F := fun _ => False) HO8.out (Chg.of_below hb9) (fun _ _ f => f))
                clear hb9 y0 y1 y2 y3 y4 y5 r0 r1 r2 r3 r4 r5 f0 f1 f2 f3 f4 f5
                obtain ⟨y0, y1, y2, y3, y4, y5, -⟩ := cells6 HS9.out
                obtain ⟨r0, r1, r2, r3, r4, r5, rf⟩ := cells6 HG9.out
                have f0 := rf 0
                have f1 := rf 1
                have f2 := rf 2
                have f3 := rf 3
                have f4 := rf 4
                have f5 := rf 5
                clear rf
                go_wp2_with fail
                refine bodyPost_ret (v := .tuple #[.agg #[.int .i64 gen, .int .i64 (bl : Int), .int .i64 (cl : Int), .int .i64 (re : Int), .int .i64 (nx : Int), .slice oa k oc], .int .i64 0]) (by simp [results, Try.results25, go_sem, r0, r1, r2, r3, r4, r5]) rfl ?_
                rw [HF.out]
                refine ⟨oa, oc, (by rw [hv9.out]; rfl), ?_, (fun j hj => Nat.le_of_lt (Hof.out j hj)), ?_⟩
                · unfold ORt
                  rw [Hrs.out, rootsAt_length]
                  refine OR.chg (F := fun k => k = w.heap.size) HO9.out ?_ (fun j hj e => by have := Hof.out j hj; omega)
                  exact (((((((Chg.refl (fun j => j = w.heap.size) _).setCell ⟨w.heap.size, 0, none⟩ _ (fun _ => rfl)).setCell ⟨w.heap.size, 1, none⟩ _ (fun _ => rfl)).setCell ⟨w.heap.size, 2, none⟩ _ (fun _ => rfl)).setCell ⟨w.heap.size, 3, none⟩ _ (fun _ => rfl)).setCell ⟨w.heap.size, 4, none⟩ _ (fun _ => rfl)).setCell ⟨w.heap.size, 5, none⟩ _ (fun _ => rfl))
                · exact (((((HB9.out.setCell (Nat.le_refl _) _).setCell (Nat.le_refl _) _).setCell (Nat.le_refl _) _).setCell (Nat.le_refl _) _).setCell (Nat.le_refl _) _).setCell (Nat.le_refl _) _
              · have HF := Lib.hid (show sdec bs = (5, zeroS) by rw [HD.out, if_neg (fun e => hq e.2)])
                rw [decide_eq_false hq] at HE
                clear hq hsc
                go_wp2_with fail
                refine HE.out.mono ?_
                clear HE
                rintro _ w9 ⟨rfl, hb9⟩
                have HG9 := Lib.hid ((hb9.block w.heap.size (lt_of_heap HG8.out)).trans HG8.out)
                have HS9 := Lib.hid ((hb9.block _ (lt_of_heap HS8.out)).trans HS8.out)
                have HB9 := Lib.hid (HB8.out.trans (hb9.mono HB8.out.size))
                have HO9 := Lib.hid (OR.chg (F := fun _ => False) HO8.out (Chg.of_below hb9) (fun _ _ f => f))
                clear hb9 y0 y1 y2 y3 y4 y5 r0 r1 r2 r3 r4 r5 f0 f1 f2 f3 f4 f5
                obtain ⟨y0, y1, y2, y3, y4, y5, -⟩ := cells6 HS9.out
                obtain ⟨r0, r1, r2, r3, r4, r5, rf⟩ := cells6 HG9.out
                have f0 := rf 0
                have f1 := rf 1
                have f2 := rf 2
                have f3 := rf 3
                have f4 := rf 4
                have f5 := rf 5
                clear rf
                go_wp2_with fail
                refine bodyPost_ret (v := .tuple #[.agg #[.int .i64 0, .int .i64 0, .int .i64 0, .int .i64 0, .int .i64 0, .slice none 0 0], .int .i64 5]) (by simp [results, Try.results25, go_sem, r0, r1, r2, r3, r4, r5]) rfl ?_
                rw [HF.out]
                refine ⟨none, 0, rfl, OR.nil _ _, (fun k hk => by cases hk), ?_⟩
                exact (((((HB9.out.setCell (Nat.le_refl _) _).setCell (Nat.le_refl _) _).setCell (Nat.le_refl _) _).setCell (Nat.le_refl _) _).setCell (Nat.le_refl _) _).setCell (Nat.le_refl _) _
            · have HF := Lib.hid (show sdec bs = (5, zeroS) by rw [HD.out, if_neg (fun e => hsc e.1)])
              have hne' : ((scheck (sread bs) : Int) != 0) = true := by rw [bne_iff_ne]; omega
              clear hsp hv hrt hb7
              generalize scheck (sread bs) = sc at hne' hle
              obtain ⟨r0, r1, r2, r3, r4, r5, rf⟩ := cells6 HG7.out
              have f0 := rf 0
              have f1 := rf 1
              have f2 := rf 2
              have f3 := rf 3
              have f4 := rf 4
              have f5 := rf 5
              clear rf
              go_wp2_with fail
              refine bodyPost_ret (v := .tuple #[.agg #[.int .i64 0, .int .i64 0, .int .i64 0, .int .i64 0, .int .i64 0, .slice none 0 0], .int .i64 5]) (by simp [results, Try.results25, go_sem, r0, r1, r2, r3, r4, r5]) rfl ?_
              rw [HF.out]
              refine ⟨none, 0, rfl, OR.nil _ _, (fun k hk => by cases hk), ?_⟩
              exact (((((HB7.out.setCell (Nat.le_refl _) _).setCell (Nat.le_refl _) _).setCell (Nat.le_refl _) _).setCell (Nat.le_refl _) _).setCell (Nat.le_refl _) _).setCell (Nat.le_refl _) _
      · have hn16' : (16 : Int) < (n : Int) := by omega
        have HF := Lib.hid (show sdec bs = (5, zeroS) by
          rw [HD, if_neg]
          rintro ⟨g1, -⟩
          have h16 := (scheck_ok.1 g1).len
          rw [Hsr.out] at h16
          simp only [rootsAt_length] at h16
          omega)
        have hg9 := (HB3.out.block w.heap.size (by omega)).trans Hg0.out
        obtain ⟨r0, r1, r2, r3, r4, r5, rf⟩ := cells6 hg9
        have f0 := rf 0
        have f1 := rf 1
        have f2 := rf 2
        have f3 := rf 3
        have f4 := rf 4
        have f5 := rf 5
        clear rf hg9
        go_wp2_with fail
        refine bodyPost_ret (v := .tuple #[.agg #[.int .i64 0, .int .i64 0, .int .i64 0, .int .i64 0, .int .i64 0, .slice none 0 0], .int .i64 5]) (by simp [results, Try.results25, go_sem, r0, r1, r2, r3, r4, r5]) rfl ?_
        rw [HF.out]
        refine ⟨none, 0, rfl, OR.nil _ _, (fun k hk => by cases hk), ?_⟩
        exact ((((((HB0.out.trans (HB3.out.mono (by omega))).setCell (Nat.le_refl _) _).setCell (Nat.le_refl _) _).setCell (Nat.le_refl _) _).setCell (Nat.le_refl _) _).setCell (Nat.le_refl _) _).setCell (Nat.le_refl _) _
    · rw [if_pos hss] at HD
      have hbb : ((sv : Int) != (sm : Int)) = true := by rw [bne_iff_ne]; omega
      have HG9 := Hg0.out
      obtain ⟨r0, r1, r2, r3, r4, r5, rf⟩ := cells6 HG9
      have f0 := rf 0
      have f1 := rf 1
      have f2 := rf 2
      have f3 := rf 3
      have f4 := rf 4
      have f5 := rf 5
      clear rf HG9
      go_wp2_with fail
      refine bodyPost_ret (v := .tuple #[.agg #[.int .i64 0, .int .i64 0, .int .i64 0, .int .i64 0, .int .i64 0, .slice none 0 0], .int .i64 6]) (by simp [results, Try.results25, go_sem, r0, r1, r2, r3, r4, r5]) rfl ?_
      rw [HD.out]
      refine ⟨none, 0, rfl, OR.nil _ _, (fun k hk => by cases hk), ?_⟩
      exact (((((((below_drewN HB0.out _)).setCell (Nat.le_refl _) _).setCell (Nat.le_refl _) _).setCell (Nat.le_refl _) _).setCell (Nat.le_refl _) _).setCell (Nat.le_refl _) _).setCell (Nat.le_refl _) _
  · have HD := Lib.hid (show sdec bs = (1, zeroS) by rw [sdec, if_pos h5])
    have h5'' : ((bs.length : Int) != 512) = true := by rw [bne_iff_ne]; omega
    generalize bs.length = n at h5'' ⊢
    have HB := Lib.hid (one_below w)
    clear hb hl h5
    go_enter Try.func25, Try.ntmps25
    go_wp2_with fail
    refine bodyPost_ret (v := .tuple #[.agg #[.int .i64 0, .int .i64 0, .int .i64 0, .int .i64 0, .int .i64 0, .slice none 0 0], .int .i64 1]) (by simp [results, Try.results25, go_sem]) rfl ?_
    rw [HD.out]
    exact ⟨none, 0, rfl, OR.nil _ _, (fun k hk => by cases hk), HB.out _⟩
end Go.Proofs.Ythkopgmkdenebaa

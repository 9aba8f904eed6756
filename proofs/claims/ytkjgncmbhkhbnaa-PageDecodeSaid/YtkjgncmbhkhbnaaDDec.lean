/- The document's Decode. -/
import Derived.Test.YtkjgncmbhkhbnaaDGuesI
import Derived.Test.YtkjgncmbhkhbnaaDEncM
namespace Go.Proofs.Ytkjgncmbhkhbnaa
open Go.RowKit
set_option linter.unusedVariables false
set_option maxRecDepth 100000

theorem dGuess_any (a : Option Addr) (cap : Nat) (bs : List UInt8) (hl : bs.length = 512) (w : World) (hb : Bts w a bs) :
    Calls Try.prog 59 #[.slice a 512 cap] w (GuesP (dguess bs) w) := by
  by_cases hk : fld bs 0 1 = 3
  · exact dGuess_blob a cap bs hl hk w hb
  · exact dGuess_items a cap bs hl hk w hb
theorem dguess_at {bs : List UInt8} {lo : Nat} {w : World} {ia : Option Addr} {ic : Nat} {da : Option Addr} {dc : Nat} (h : NewPg lo w (dguess bs) ia ic da dc) : PgAt w.heap.size w (dguess bs) ia ic da dc := by
  have h1 := fld_lt bs 0 1
  have h2 := fld_lt bs 1 1
  have h3 := fld_lt bs 14 2
  have h4 := fld_lt bs 16 4
  have h5 := piece_le bs 20 (fld bs 14 2)
  unfold dguess at h ⊢
  split at h
  · rename_i hk
    rw [if_pos hk]
    exact h.pgAt (fun x hx => (by cases hx)) (by simp only; omega) (Nat.zero_le _) ⟨by show (-9223372036854775808 : Int) ≤ 3; decide, by show (3 : Int) ≤ 9223372036854775807; decide⟩ ⟨by simp only; omega, by simp only; omega⟩ ⟨by simp only; omega, by simp only; omega⟩
  · rename_i hk
    rw [if_neg hk]
    exact h.pgAt (fun x hx => dst_small _ bs _ x hx) (Nat.zero_le _) (by simp only [dst_length]; omega) ⟨by simp only; omega, by simp only; omega⟩ ⟨by simp only; omega, by simp only; omega⟩ ⟨by simp only; decide, by simp only; decide⟩
theorem gen_high {bs : List UInt8} (h : 0 < (bs.getD 13 0).toNat) : ¬ fld bs 6 8 ≤ 1099511627776 := by
  simp only [fld_cons, fld_none]
  have h7 : 0 < (bs.getD (6 + 1 + 1 + 1 + 1 + 1 + 1 + 1) 0).toNat := h
  omega
theorem gen_low {bs : List UInt8} (h : ¬ 0 < (bs.getD 13 0).toNat) : fld bs 6 8 < 9223372036854775808 := by
  simp only [fld_cons, fld_none]
  have h0 := (bs.getD 6 0).toNat_lt
  have h1 := (bs.getD (6 + 1) 0).toNat_lt
  have h2 := (bs.getD (6 + 1 + 1) 0).toNat_lt
  have h3 := (bs.getD (6 + 1 + 1 + 1) 0).toNat_lt
  have h4 := (bs.getD (6 + 1 + 1 + 1 + 1) 0).toNat_lt
  have h5 := (bs.getD (6 + 1 + 1 + 1 + 1 + 1) 0).toNat_lt
  have h6 := (bs.getD (6 + 1 + 1 + 1 + 1 + 1 + 1) 0).toNat_lt
  have h7 : (bs.getD (6 + 1 + 1 + 1 + 1 + 1 + 1 + 1) 0).toNat = 0 := by show (bs.getD 13 0).toNat = 0; omega
  omega
theorem pdec_late {no : Int} {bs : List UInt8} (h1 : isPg no = true) (h2 : bs.length = 512) :
    pdec no bs = if fld bs 508 4 ≠ Crc.ofs (bs.take 508) then (6, zeroP, 0) else if (fld bs 2 4 : Int) ≠ no then (25, zeroP, 0)
      else if fld bs 6 8 ≤ 1099511627776 ∧ pcheck (dguess bs) = 0 ∧ pblock no.toNat (fld bs 6 8) (dguess bs) = bs then (0, dguess bs, fld bs 6 8) else (5, zeroP, 0) := by
  have hdr : unle (bs.drop 508) = fld bs 508 4 := by rw [fld, List.take_of_length_le (by rw [List.length_drop]; omega)]
  unfold pdec
  rw [if_neg (by simp [h1]), if_neg (by simp [h2]), hdr]
/-- the last question, by what Encode answers -/
theorem pdec_last {no : Int} {bs : List UInt8} (h1 : isPg no = true) {e : Int} {cs : List UInt8} {g : Nat} {p : PP} (he : penc no g p = (e, cs)) :
    (if g ≤ 1099511627776 ∧ pcheck p = 0 ∧ pblock no.toNat g p = bs then ((0 : Int), p, g) else (5, zeroP, 0)) = if e = 0 ∧ bs = cs then (0, p, g) else (5, zeroP, 0) := by
  have hc : (g ≤ 1099511627776 ∧ pcheck p = 0 ∧ pblock no.toNat g p = bs) ↔ (e = 0 ∧ bs = cs) := by
    unfold penc at he
    rw [if_neg (by simp [h1])] at he
    split at he
    · injection he with e1 e2
      constructor
      · intro h; omega
      · intro h; omega
    · rename_i hg
      split at he
      · rename_i hp
        injection he with e1 e2
        constructor
        · intro h; exact absurd h.2.1 hp
        · intro h; exact absurd (e1.trans h.1) hp
      · rename_i hp
        injection he with e1 e2
        rw [Int.toNat_natCast] at e2
        constructor
        · intro h; exact ⟨e1.symm, h.2.2.symm.trans e2⟩
        · intro h; exact ⟨by omega, Decidable.not_not.1 hp, e2.trans h.2.symm⟩
  simp only [hc]
theorem penc_small' {no gen : Int} {p : PP} {e : Int} {cs : List UInt8} (h : penc no gen p = (e, cs)) : cs.length ≤ 512 := by
  have h2 : cs = (penc no gen p).2 := by rw [h]
  rw [h2]
  unfold penc
  split
  · exact Nat.zero_le _
  · split
    · exact Nat.zero_le _
    · split
      · exact Nat.zero_le _
      · rename_i h
        exact Nat.le_of_eq (pblock_length (pcheck_right (Decidable.not_not.1 h)) _ _)
def zRow : Obj := .cells #[.int .i64 0, .int .i64 0, .slice none 0 0, .slice none 0 0, .int .i64 0] 27
/-- while Decode runs: the result's box -/
structure DZ (w0 : World) (w : World) : Prop where
  z : w.heap[w0.heap.size]? = some (.cells #[.int .i64 0, .int .i64 0, .slice none 0 0, .slice none 0 0, .int .i64 0] 27)
  bel : Below w0.heap.size w0 w
theorem DZ.below {w0 w w2 : World} (h : DZ w0 w) (hb : Below w.heap.size w w2) : DZ w0 w2 := ⟨(hb.block _ (rlt_of_heapP h.z)).trans h.z, h.bel.trans (hb.mono h.bel.size)⟩
theorem DZ.start (w : World) : DZ w (w.alloc (.cells #[.int .i64 0, .int .i64 0, .slice none 0 0, .slice none 0 0, .int .i64 0] 27)) := ⟨heap_alloc_new _ _, one_below _ _⟩
set_option maxHeartbeats 1000000 in
theorem dDecode_early (no : Int) (a : Option Addr) (cap : Nat) (bs : List UInt8) (w : World) (h : isPg no = false ∨ (isPg no = true ∧ bs.length ≠ 512)) :
    Calls Try.prog 32 #[.int .i64 no, .slice a bs.length cap] w (DecdP (pdec no bs) w) := by
  have HZ := Lib.hid (DZ.start w)
  have HPG := Lib.hid fun w1 => dIsPage_any no w1
  rcases h with h | ⟨h, hl⟩
  · have HE := Lib.hid (show pdec no bs = (15, zeroP, 0) by unfold pdec; rw [if_pos h])
    rw [h] at HPG
    rw [HE.out]
    generalize bs.length = n
    go_enter Try.func32, Try.ntmps32
    go_wp2_with fail
    generalize w.alloc (.cells #[.int .i64 0, .int .i64 0, .slice none 0 0, .slice none 0 0, .int .i64 0] 27) = W0 at *
    refine (HPG.out _).mono ?_
    rintro _ wx ⟨rfl, e0⟩
    rw [e0]
    clear e0 wx
    obtain ⟨r0, r1, r2, r3, r4, rf⟩ := cells5f HZ.out.z
    have f0 := rf 0
    have f1 := rf 1
    have f2 := rf 2
    have f3 := rf 3
    have f4 := rf 4
    clear rf
    go_wp2_with fail
    refine bodyPost_ret (v := .tuple #[.agg #[.int .i64 0, .int .i64 0, .slice none 0 0, .slice none 0 0, .int .i64 0], .int .i64 0, .int .i64 15]) (by simp [results, Try.results32, go_sem, r0, r1, r2, r3, r4]) rfl ?_
    exact decd_no (below_five HZ.out.bel (Nat.le_refl _) _ _ _ _ _)
  · have HE := Lib.hid (show pdec no bs = (16, zeroP, 0) by unfold pdec; rw [if_neg (by simp [h]), if_pos hl])
    rw [h] at HPG
    rw [HE.out]
    have hl1 : ((bs.length : Int) != 512) = true := by rw [bne_iff_ne]; omega
    generalize bs.length = n at hl1 hl ⊢
    go_enter Try.func32, Try.ntmps32
    go_wp2_with fail
    generalize w.alloc (.cells #[.int .i64 0, .int .i64 0, .slice none 0 0, .slice none 0 0, .int .i64 0] 27) = W0 at *
    refine (HPG.out _).mono ?_
    rintro _ wx ⟨rfl, e0⟩
    rw [e0]
    clear e0 wx
    obtain ⟨r0, r1, r2, r3, r4, rf⟩ := cells5f HZ.out.z
    have f0 := rf 0
    have f1 := rf 1
    have f2 := rf 2
    have f3 := rf 3
    have f4 := rf 4
    clear rf
    go_wp2_with fail
    refine bodyPost_ret (v := .tuple #[.agg #[.int .i64 0, .int .i64 0, .slice none 0 0, .slice none 0 0, .int .i64 0], .int .i64 0, .int .i64 16]) (by simp [results, Try.results32, go_sem, r0, r1, r2, r3, r4]) rfl ?_
    exact decd_no (below_five HZ.out.bel (Nat.le_refl _) _ _ _ _ _)
set_option maxHeartbeats 2000000 in
theorem dDecode_late (no : Int) (a : Option Addr) (cap : Nat) (bs : List UInt8) (w : World) (hpg : isPg no = true) (hl : bs.length = 512) (hb : Bts w a bs) (hcap : bs.length ≤ cap) :
    Calls Try.prog 32 #[.int .i64 no, .slice a bs.length cap] w (DecdP (pdec no bs) w) := by
  have HZ := Lib.hid (DZ.start w)
  have HPG := Lib.hid fun w1 => dIsPage_any no w1
  rw [hpg] at HPG
  obtain ⟨b, off, rfl, hbw, -⟩ := hb.at (k := 0) (by omega)
  have htl : (bs.take 508).length = 508 := by rw [List.length_take, hl]; rfl
  have HNU := Lib.hid fun (o n : Nat) (ho : o ≤ 1000000) (hn : n ≤ 8) (hf : fld bs o n < 9223372036854775808) (w1 : World) (h : Below w.heap.size w w1) => (dNumber_any (some ⟨b, off, none⟩) cap bs o n ho hn (by omega) w1 (hb.below h) hf).mono fun e w' (g : e = .returned (.int .i64 (fld bs o n : Nat)) ∧ w' = w1) => (show e = .returned (.int .i64 (fld bs o n : Nat)) ∧ w1 = w' from ⟨g.1, g.2.symm⟩)
  have HOF := Lib.hid fun (w1 : World) (h : Below w.heap.size w w1) => refOf_any (bs.take 508) (some ⟨b, off, none⟩) cap (by rw [htl]; decide) w1 ((hb.below h).take508 hl)
  have HGU := Lib.hid fun (w1 : World) (h : Below w.heap.size w w1) => dGuess_any (some ⟨b, off, none⟩) cap bs hl w1 (hb.below h)
  rw [htl] at HOF
  simp only [hl] at HNU
  unfold GuesP at HGU
  have HEN := Lib.hid fun (w1 : World) ia ic da dc (hp : PgAt w1.heap.size w1 (dguess bs) ia ic da dc) => dEncode_any no (fld bs 6 8 : Nat) (dguess bs) ia ic da dc w1 hp
  have HAT := Lib.hid fun (lo : Nat) (w1 : World) ia ic da dc (h : NewPg lo w1 (dguess bs) ia ic da dc) => dguess_at h
  have HC13 := Lib.hid fun (w1 : World) (h : Below w.heap.size w w1) => (show w1.cell? ⟨b, off + 13, none⟩ = some (.int .u8 ((bs.getD 13 0).toNat : Int)) by
    obtain ⟨b2, o2, e, -, h⟩ := (hb.below h).at (k := 13) (by rw [hl]; decide)
    cases e; exact h)
  have HBT := Lib.hid hb
  obtain ⟨e, cs, hpe⟩ : ∃ e cs, penc no (fld bs 6 8 : Nat) (dguess bs) = (e, cs) := ⟨_, _, rfl⟩
  have HCS := Lib.hid (penc_small' hpe)
  have HPD := Lib.hid (pdec_late hpg hl)
  rw [pdec_last hpg hpe] at HPD
  unfold Encd at HEN
  rw [hpe] at HEN
  simp only at HEN
  have HSA := Lib.hid fun (w1 : World) ao co (h : OB w1 ao co cs) (hb1 : Below w.heap.size w w1) => eqBytes_any bs cs (some ⟨b, off, none⟩) ao cap co (by omega) (Nat.le_trans HCS.out (by decide)) w1 (hb.below hb1) h.bts
  unfold Same at HSA
  rw [hl] at HSA
  obtain ⟨cl, hcl⟩ : ∃ cl, cs.length = cl := ⟨_, rfl⟩
  simp only [hcl] at HEN HSA
  have HN5 := Lib.hid (HNU.out 508 4 (by decide) (by decide) (fld_small bs 508 4 (by decide)))
  have HN2 := Lib.hid (HNU.out 2 4 (by decide) (by decide) (fld_small bs 2 4 (by decide)))
  have HN6 := Lib.hid fun h13 => HNU.out 6 8 (by decide) (by decide) (gen_low (bs := bs) h13)
  have HGH := Lib.hid (gen_high (bs := bs))
  have hsl := Crc.ofs_lt (bs.take 508)
  have hf5 := fld_lt bs 508 4
  have hf2 := fld_lt bs 2 4
  have hgl := gen_low (bs := bs)
  have hb13 := (bs.getD 13 0).toNat_lt
  have HX := Lib.hid fun (h : 0 < (bs.getD 13 0).toNat) => show (if e = 0 ∧ bs = cs then ((0 : Int), dguess bs, fld bs 6 8) else (5, zeroP, 0)) = (5, zeroP, 0) by
    rw [← pdec_last hpg hpe, if_neg (fun g => gen_high h g.1)]
  rw [hl] at hcap ⊢
  have hcapp : (508 : Int) ≤ (cap : Int) := by omega
  generalize Crc.ofs (bs.take 508) = sm at HOF HPD hsl
  generalize fld bs 508 4 = sv at HN5 HPD hf5
  generalize fld bs 2 4 = n2 at HN2 HPD hf2
  generalize fld bs 6 8 = gg at HN6 HPD HX HEN hgl
  generalize (bs.getD 13 0).toNat = b13 at HC13 HN6 HX hgl hb13
  clear hb htl hcl hpe HNU HGH hcap
  generalize dguess bs = p at *
  obtain ⟨kd, lv, its, ds, nx⟩ := p
  unfold pgv at HGU HEN
  simp only at HGU HEN
  obtain ⟨il, hil⟩ : ∃ il, its.length = il := ⟨_, rfl⟩
  obtain ⟨dl, hdl⟩ : ∃ dl, ds.length = dl := ⟨_, rfl⟩
  simp only [hil, hdl] at HGU HEN
  have HIL := Lib.hid hil
  have HDL := Lib.hid hdl
  clear hil hdl
  go_enter Try.func32, Try.ntmps32
  go_wp2_with fail
  generalize w.alloc (.cells #[.int .i64 0, .int .i64 0, .slice none 0 0, .slice none 0 0, .int .i64 0] 27) = W0 at *
  refine (HPG.out _).mono ?_
  rintro _ wx ⟨rfl, e0⟩
  rw [e0]
  clear e0 wx
  go_wp2_with fail
  have HNq := Lib.hid fun n => HN5.out _ (below_drewN HZ.out.bel n)
  have HOq := Lib.hid fun n => HOF.out _ (below_drewN HZ.out.bel n)
  go_quiet (first | exact Calls.quiet_of_same ((HNq.out _).mono fun _ _ g => ⟨g.1, g.2.symm⟩) | exact Calls.quiet_of_same ((HOq.out _).mono fun _ _ g => ⟨g.1, g.2.symm⟩))
  have HZ1 := Lib.hid (HZ.out.below (below_drewN (Below.refl _ _) nq))
  generalize W0.drewN nq = W1 at HZ1 ⊢
  clear HNq HOq HN5 HOF HZ HPG
  by_cases hss : sv = sm
  rotate_left
  · have HE := Lib.hid (show pdec no bs = (6, zeroP, 0) by rw [HPD.out, if_pos hss])
    have hsd : ((sv : Int) != (sm : Int)) = true := by rw [bne_iff_ne]; omega
    obtain ⟨r0, r1, r2, r3, r4, rf⟩ := cells5f HZ1.out.z
    have f0 := rf 0
    have f1 := rf 1
    have f2 := rf 2
    have f3 := rf 3
    have f4 := rf 4
    clear rf
    go_wp2_with fail
    refine bodyPost_ret (v := .tuple #[.agg #[.int .i64 0, .int .i64 0, .slice none 0 0, .slice none 0 0, .int .i64 0], .int .i64 0, .int .i64 6]) (by simp [results, Try.results32, go_sem, r0, r1, r2, r3, r4]) rfl ?_
    rw [HE.out]
    exact decd_no (below_five HZ1.out.bel (Nat.le_refl _) _ _ _ _ _)
  rw [if_neg (by simpa using hss)] at HPD
  subst hss
  have hbb : ((sv : Int) != (sv : Int)) = false := by simp
  go_wp2_with fail
  refine (HN2.out _ HZ1.out.bel).mono ?_
  rintro _ _ ⟨rfl, rfl⟩
  clear HN2
  by_cases hno : (n2 : Int) = no
  rotate_left
  · have HE := Lib.hid (show pdec no bs = (25, zeroP, 0) by rw [HPD.out, if_pos hno])
    have hsd : ((n2 : Int) != no) = true := by rw [bne_iff_ne]; exact hno
    obtain ⟨r0, r1, r2, r3, r4, rf⟩ := cells5f HZ1.out.z
    have f0 := rf 0
    have f1 := rf 1
    have f2 := rf 2
    have f3 := rf 3
    have f4 := rf 4
    clear rf
    go_wp2_with fail
    refine bodyPost_ret (v := .tuple #[.agg #[.int .i64 0, .int .i64 0, .slice none 0 0, .slice none 0 0, .int .i64 0], .int .i64 0, .int .i64 25]) (by simp [results, Try.results32, go_sem, r0, r1, r2, r3, r4]) rfl ?_
    rw [HE.out]
    exact decd_no (below_five HZ1.out.bel (Nat.le_refl _) _ _ _ _ _)
  rw [if_neg (by simpa using hno)] at HPD
  have hbn : ((n2 : Int) != no) = false := by rw [bne_eq_false_iff_eq]; exact hno
  clear hno
  have hc13 := HC13.out _ HZ1.out.bel
  by_cases h13 : 0 < b13
  · have HE := Lib.hid (show pdec no bs = (5, zeroP, 0) by rw [HPD.out]; exact HX.out h13)
    have hI : (0 : Int) < (b13 : Int) := by omega
    obtain ⟨r0, r1, r2, r3, r4, rf⟩ := cells5f HZ1.out.z
    have f0 := rf 0
    have f1 := rf 1
    have f2 := rf 2
    have f3 := rf 3
    have f4 := rf 4
    clear rf
    go_wp2_with fail
    refine bodyPost_ret (v := .tuple #[.agg #[.int .i64 0, .int .i64 0, .slice none 0 0, .slice none 0 0, .int .i64 0], .int .i64 0, .int .i64 5]) (by simp [results, Try.results32, go_sem, r0, r1, r2, r3, r4]) rfl ?_
    rw [HE.out]
    exact decd_no (below_five HZ1.out.bel (Nat.le_refl _) _ _ _ _ _)
  have hI : ¬ (0 : Int) < (b13 : Int) := by omega
  have HN6 := Lib.hid (HN6.out h13)
  replace hgl := hgl h13
  clear HX h13
  go_wp2_with fail
  refine (HGU.out _ HZ1.out.bel).mono ?_
  rintro _ w2 ⟨ia, ic, da, dc, rfl, hN, hB2⟩
  have HZ2 := Lib.hid (HZ1.out.below hB2)
  have HNP := Lib.hid (hN.low (rlt_of_heapP HZ1.out.z))
  clear hN hB2 HGU hc13
  go_wp2_with fail
  refine (HN6.out _ HZ2.out.bel).mono ?_
  rintro _ _ ⟨rfl, rfl⟩
  clear HN6
  have HZ3 := Lib.hid (HZ2.out.below (one_below w2 (.cells #[.int .i64 kd, .int .i64 lv, .slice ia il ic, .slice da dl dc, .int .i64 nx] 27)))
  have HP3 := Lib.hid (HNP.out.below (one_below w2 (.cells #[.int .i64 kd, .int .i64 lv, .slice ia il ic, .slice da dl dc, .int .i64 nx] 27)))
  have HR3 := Lib.hid (heap_alloc_new w2 (.cells #[.int .i64 kd, .int .i64 lv, .slice ia il ic, .slice da dl dc, .int .i64 nx] 27))
  have hzq : w.heap.size ≠ w2.heap.size := Nat.ne_of_lt (rlt_of_heapP HZ2.out.z)
  have hzq2 : w2.heap.size ≠ w.heap.size := fun e => hzq e.symm
  obtain ⟨x0, x1, x2, x3, x4⟩ := cells5 HR3.out
  go_wp2_with fail
  clear x0 x1 x2 x3 x4
  generalize w2.alloc (.cells #[.int .i64 kd, .int .i64 lv, .slice ia il ic, .slice da dl dc, .int .i64 nx] 27) = w3 at HZ3 HP3 HR3 ⊢
  generalize w2.heap.size = q at *
  refine (HEN.out w3 ia ic da dc (HAT.out _ _ _ _ _ _ HP3.out)).mono ?_
  rintro _ w4 ⟨oa, oc, rfl, hO, -, hB4⟩
  have HZ4 := Lib.hid (HZ3.out.below hB4)
  have HP4 := Lib.hid (HP3.out.below hB4)
  have HR4 := Lib.hid ((hB4.block _ (rlt_of_heapP HR3.out)).trans HR3.out)
  have HO4 := Lib.hid hO
  clear hO hB4 HEN HZ3 HP3 HR3 HZ2 HNP HZ1
  by_cases he : e = 0
  rotate_left
  · have HE := Lib.hid (show pdec no bs = (5, zeroP, 0) by rw [HPD.out, if_neg (fun g => he g.1)])
    have hed : (e != 0) = true := by rw [bne_iff_ne]; exact he
    clear he
    obtain ⟨r0, r1, r2, r3, r4, rf⟩ := cells5f HZ4.out.z
    have f0 := rf 0
    have f1 := rf 1
    have f2 := rf 2
    have f3 := rf 3
    have f4 := rf 4
    clear rf
    go_wp2_with fail
    refine bodyPost_ret (v := .tuple #[.agg #[.int .i64 0, .int .i64 0, .slice none 0 0, .slice none 0 0, .int .i64 0], .int .i64 0, .int .i64 5]) (by simp [results, Try.results32, go_sem, r0, r1, r2, r3, r4]) rfl ?_
    rw [HE.out]
    exact decd_no (below_five HZ4.out.bel (Nat.le_refl _) _ _ _ _ _)
  subst he
  have H5 := Lib.hid (HSA.out w4 oa oc HO4.out HZ4.out.bel)
  clear HSA
  by_cases hbc : bs = cs
  rotate_left
  · have HE := Lib.hid (show pdec no bs = (5, zeroP, 0) by rw [HPD.out, if_neg (fun g => hbc g.2)])
    rw [decide_eq_false hbc] at H5
    go_wp2_with fail
    refine H5.out.mono ?_
    rintro _ w5 ⟨rfl, hB5⟩
    have HZ5 := Lib.hid (HZ4.out.below hB5)
    clear hB5 H5
    obtain ⟨r0, r1, r2, r3, r4, rf⟩ := cells5f HZ5.out.z
    have f0 := rf 0
    have f1 := rf 1
    have f2 := rf 2
    have f3 := rf 3
    have f4 := rf 4
    clear rf
    go_wp2_with fail
    refine bodyPost_ret (v := .tuple #[.agg #[.int .i64 0, .int .i64 0, .slice none 0 0, .slice none 0 0, .int .i64 0], .int .i64 0, .int .i64 5]) (by simp [results, Try.results32, go_sem, r0, r1, r2, r3, r4]) rfl ?_
    rw [HE.out]
    exact decd_no (below_five HZ5.out.bel (Nat.le_refl _) _ _ _ _ _)
  have HE := Lib.hid (show pdec no bs = (0, ⟨kd, lv, its, ds, nx⟩, gg) by rw [HPD.out, if_pos ⟨rfl, hbc⟩])
  rw [decide_eq_true hbc] at H5
  clear hbc
  go_wp2_with fail
  refine H5.out.mono ?_
  rintro _ w5 ⟨rfl, hB5⟩
  have HZ5 := Lib.hid (HZ4.out.below hB5)
  have HP5 := Lib.hid (HP4.out.below hB5)
  have HR5 := Lib.hid ((hB5.block _ (rlt_of_heapP HR4.out)).trans HR4.out)
  clear hB5 H5
  obtain ⟨x0, x1, x2, x3, x4⟩ := cells5 HR5.out
  obtain ⟨r0, r1, r2, r3, r4, rf⟩ := cells5f HZ5.out.z
  have f0 := rf 0
  have f1 := rf 1
  have f2 := rf 2
  have f3 := rf 3
  have f4 := rf 4
  clear rf
  go_wp2_with fail
  refine bodyPost_ret (v := .tuple #[.agg #[.int .i64 kd, .int .i64 lv, .slice ia il ic, .slice da dl dc, .int .i64 nx], .int .i64 (gg : Int), .int .i64 0]) (by simp [results, Try.results32, go_sem, r0, r1, r2, r3, r4]) rfl ?_
  rw [HE.out]
  have hf := decd_yes (gen := gg) HP5.out HZ5.out.bel (.int .i64 kd) (.int .i64 lv) (.slice ia il ic) (.slice da dl dc) (.int .i64 nx)
  unfold pgv at hf
  simp only [HIL.out, HDL.out] at hf
  exact hf
theorem dDecode_any (no : Int) (a : Option Addr) (cap : Nat) (bs : List UInt8) (w : World) (hb : Bts w a bs) (hc : bs.length ≤ cap) :
    Calls Try.prog 32 #[.int .i64 no, .slice a bs.length cap] w (DecdP (pdec no bs) w) := by
  by_cases h1 : isPg no = false
  · exact dDecode_early no a cap bs w (.inl h1)
  have h1 : isPg no = true := by simpa using h1
  by_cases h2 : bs.length = 512
  · exact dDecode_late no a cap bs w h1 h2 hb hc
  · exact dDecode_early no a cap bs w (.inr ⟨h1, h2⟩)
end Go.Proofs.Ytkjgncmbhkhbnaa

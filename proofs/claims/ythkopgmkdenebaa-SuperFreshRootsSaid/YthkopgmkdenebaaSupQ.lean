/- The walk of bytes.Equal. -/
import Derived.Test.YthkopgmkdenebaaSupV
import Derived.Laws.IdiomStrings
import Derived.Laws.Strings
import Derived.Deep.RegionHeld3
namespace Go.Proofs.Ythkopgmkdenebaa
open Go.RowKit
set_option linter.unusedVariables false
set_option maxRecDepth 100000

theorem conv_bytes {w : World} {a : Option Addr} {bs : List UInt8} (c : Nat) (h : Bts w a bs) : (convert 35 9 (.slice a bs.length c)).run Try.prog w = .ok (.string ⟨bs.toArray⟩) w := by
  rcases h with rfl | ⟨b, off, rfl, _, hc⟩
  · rw [List.length_nil, run_convert_bytes_string w 35 9 5 a 0 c Try.underlying35 Try.underlying5 Try.underlying9]
    cases a <;> simp [Conv.bytesToString, loadCells]
    all_goals rfl
  · exact run_convert_bytes_back w 35 9 5 ⟨b, off, none⟩ c bs Try.underlying35 Try.underlying5 Try.underlying9 (fun j hj => by
      rw [add_none, hc j hj, List.getD_eq_getElem?_getD, List.getElem?_eq_getElem hj]; rfl)

theorem equal_any (xs ys : List UInt8) (a b : Option Addr) (ca cb : Nat) (w : World) (h1 : Bts w a xs) (h2 : Bts w b ys) :
    Calls Try.prog 58 #[.slice a xs.length ca, .slice b ys.length cb] w fun e w' => e = .returned (.bool (decide (xs = ys))) ∧ w' = w := by
  have e1 := conv_bytes ca h1
  have e2 := conv_bytes cb h2
  have hx : ((ByteArray.mk xs.toArray).toList == (ByteArray.mk ys.toArray).toList) = decide (xs = ys) := by
    rw [ByteArray.toList_eq, ByteArray.toList_eq]; simp; exact Bool.beq_eq_decide_eq _ _
  generalize ByteArray.mk xs.toArray = sx at e1 hx
  generalize ByteArray.mk ys.toArray = sy at e2 hx
  generalize xs.length = n at e1 ⊢
  generalize ys.length = m at e2 ⊢
  have HX := Lib.hid hx
  clear h1 h2 hx
  go_enter Try.func58, Try.ntmps58
  go_wp2_with fail
  all_goals
    go_ret
    refine ⟨ret_bool ?_, rfl⟩
    exact HX.out

theorem Bts.takeN {w : World} {a : Option Addr} {bs : List UInt8} (h : Bts w a bs) (n : Nat) : Bts w a (bs.take n) := by
  rcases h with rfl | ⟨b, off, h1, h2, h3⟩
  · exact .inl (by simp)
  · refine .inr ⟨b, off, h1, h2, fun i hi => ?_⟩
    rw [List.length_take] at hi
    rw [h3 i (by omega), List.getD_eq_getElem?_getD, List.getD_eq_getElem?_getD, List.getElem?_take_of_lt (by omega)]
theorem Bts.dropN {w : World} {b off : Nat} {bs : List UInt8} (h : Bts w (some ⟨b, off, none⟩) bs) (n : Nat) : Bts w (some ⟨b, off + n, none⟩) (bs.drop n) := by
  rcases h with rfl | ⟨b', off', h1, h2, h3⟩
  · exact .inl (by simp)
  · cases h1
    refine .inr ⟨b, off + n, rfl, h2, fun i hi => ?_⟩
    rw [List.length_drop] at hi
    rw [Nat.add_assoc, h3 (n + i) (by omega), List.getD_eq_getElem?_getD, List.getD_eq_getElem?_getD, List.getElem?_drop]
theorem cellsR_length (rs : List RT) : (cellsR rs).length = rs.length * 4 := by
  induction rs with
  | nil => rfl
  | cons r rs ih =>
    have e : cellsR (r :: rs) = [.int .i64 r.id, .int .i64 r.root, .int .i64 r.height, .int .i64 r.items] ++ cellsR rs := rfl
    rw [e, List.length_append, ih]; simp; omega
theorem cellsR_get : ∀ {rs : List RT} {i : Nat} {x : RT}, rs[i]? = some x → (cellsR rs)[i * 4]? = some (.int .i64 x.id) ∧ (cellsR rs)[i * 4 + 1]? = some (.int .i64 x.root) ∧ (cellsR rs)[i * 4 + 2]? = some (.int .i64 x.height) ∧ (cellsR rs)[i * 4 + 3]? = some (.int .i64 x.items)
  | [], i, x, h => by simp at h
  | r :: rs, 0, x, h => by simp at h; subst h; exact ⟨rfl, rfl, rfl, rfl⟩
  | r :: rs, i + 1, x, h => by
    have e : cellsR (r :: rs) = [.int .i64 r.id, .int .i64 r.root, .int .i64 r.height, .int .i64 r.items] ++ cellsR rs := rfl
    obtain ⟨h0, h1, h2, h3⟩ := cellsR_get (rs := rs) (i := i) (x := x) (by simpa using h)
    rw [e]
    refine ⟨?_, ?_, ?_, ?_⟩
    all_goals
      rw [List.getElem?_append_right (by simp; omega)]
      simp only [List.length_cons, List.length_nil]
    · rw [show (i + 1) * 4 - (0 + 1 + 1 + 1 + 1) = i * 4 by omega]; exact h0
    · rw [show (i + 1) * 4 + 1 - (0 + 1 + 1 + 1 + 1) = i * 4 + 1 by omega]; exact h1
    · rw [show (i + 1) * 4 + 2 - (0 + 1 + 1 + 1 + 1) = i * 4 + 2 by omega]; exact h2
    · rw [show (i + 1) * 4 + 3 - (0 + 1 + 1 + 1 + 1) = i * 4 + 3 by omega]; exact h3
theorem ORt.rts {w : World} {oa : Option Addr} {cap : Nat} {rs : List RT} (h : ORt w oa cap rs) : RtsAt w.heap.size w oa rs := by
  rcases (OR.form h).2 with ⟨_, _, h0, _⟩ | ⟨g, rfl, hg, _⟩
  · exact .inl (List.length_eq_zero_iff.1 h0)
  · refine .inr ⟨g, 0, rfl, hg, fun i x hi => ?_⟩
    obtain ⟨h0, h1, h2, h3⟩ := cellsR_get hi
    obtain ⟨_, e0, k0, _⟩ := OR.cell h h0
    obtain ⟨_, e1, k1, _⟩ := OR.cell h h1
    obtain ⟨_, e2, k2, _⟩ := OR.cell h h2
    obtain ⟨_, e3, k3, _⟩ := OR.cell h h3
    cases e0; cases e1; cases e2; cases e3
    rw [Nat.zero_add]
    exact ⟨k0, k1, k2, k3⟩
theorem ORt.nilcap {w : World} {oa : Option Addr} {cap : Nat} {rs : List RT} (h : ORt w oa cap rs) : oa = none → cap = 0 := by
  intro e
  rcases (OR.form h).2 with ⟨_, h0, _⟩ | ⟨g, h0, _⟩
  · exact h0
  · rw [e] at h0; cases h0
theorem ORt.below {w w' : World} {oa : Option Addr} {cap : Nat} {rs : List RT} (h : ORt w oa cap rs) (hb : Below w.heap.size w w') : ORt w' oa cap rs := OR.chg (F := fun _ => False) h (Chg.of_below hb) (fun _ _ f => f)
theorem getRoot_ok (s : RS) : (getRoot s).1.ok := by
  have h1 := get_lt s 4
  have h2 := get_lt (s.get 4).2 4
  have h3 := get_lt ((s.get 4).2.get 4).2 1
  have h4 := get_lt (((s.get 4).2.get 4).2.get 1).2 4
  unfold getRoot RT.ok i64ok
  simp only
  omega
theorem rootsR_ok (s : RS) (n : Nat) : ∀ x ∈ (rootsR s n).1, x.ok := by
  induction n with
  | zero => intro x hx; simp [rootsR] at hx
  | succ n ih =>
    intro x hx
    simp only [rootsR, List.mem_append, List.mem_singleton] at hx
    rcases hx with hx | rfl
    · exact ih x hx
    · exact getRoot_ok _
theorem readR_sp {w : World} {bs : List UInt8} {oa : Option Addr} {cap : Nat} (h : ORt w oa cap (readR bs).roots) : SpAt w.heap.size w (readR bs) oa cap := by
  have hn : nRoots bs < 256 := get_lt (rd6 bs) 1
  have h1 := get_lt (rd2 bs) 4
  have h2 := get_lt (rd3 bs) 1
  have h3 := get_lt (rd4 bs) 4
  have h4 := get_lt (rd5 bs) 4
  have hr : readR bs = ⟨IntKind.i64.wrap (((rd1 bs).get 8).1 : Nat), ⟨((rd2 bs).get 4).1, ((rd3 bs).get 1).1, ((rd4 bs).get 4).1⟩, ((rd5 bs).get 4).1, (rootsR (rd7 bs) (nRoots bs)).1⟩ := rfl
  have hl := rootsR_length (rd7 bs) (nRoots bs)
  have ho := rootsR_ok (rd7 bs) (nRoots bs)
  rw [hr] at h ⊢
  clear hr
  generalize (rootsR (rd7 bs) (nRoots bs)).1 = rs at h hl ho ⊢
  generalize ((rd1 bs).get 8).1 = v1
  generalize ((rd2 bs).get 4).1 = v2 at h1 h ⊢
  generalize ((rd3 bs).get 1).1 = v3 at h2 h ⊢
  generalize ((rd4 bs).get 4).1 = v4 at h3 h ⊢
  generalize ((rd5 bs).get 4).1 = v5 at h4 h ⊢
  generalize nRoots bs = n at hn hl
  rw [IntWalk.i64_left]
  refine ⟨h.rts, ho, by simp only; omega, h.nilcap, ?_, ?_, ?_, ?_, ?_⟩
  all_goals (simp only [i64ok, wrap64]; omega)

/-- a new reader above lo -/
def NewRd (lo : Nat) (W : World) (bs : List UInt8) (e : Ending) (w1 : World) : Prop := ∃ n hi p, e = .returned (.pointer (some ⟨p, 0, none⟩)) ∧ RAt n hi p ⟨bs, 0⟩ w1 ∧ lo ≤ n ∧ Below lo W w1
theorem newRd_any (lo : Nat) (W w' : World) (hs : W.heap.size = lo) (h : Below lo W w') (a : Option Addr) (c : Nat) (bs : List UInt8) (hx : Bts w' a bs) (hc : a = none → c = 0) (hl : bs.length ≤ 140737488355328) :
    Calls Try.prog 56 #[.slice a bs.length c] w' (NewRd lo W bs) := by
  refine (newReader_any a c bs w' hx hc hl).mono ?_
  rintro e w1 ⟨p, ra, rc, rfl, hI, hp, ha, hb⟩
  have h1 : lo ≤ w'.heap.size := hs ▸ h.size
  exact ⟨w'.heap.size, w1.heap.size, p, rfl, ⟨ra, rc, hI, ⟨hp, hI.lt⟩, fun k hk => ⟨ha k hk, hI.2.2.2.2.2.2.2 k hk⟩⟩, h1, h.trans (hb.mono h1)⟩
theorem getRd_any (lo : Nat) (W w' : World) (hs : W.heap.size = lo) (h : Below lo W w') (n hi p : Nat) (s : RS) (hR : RAt n hi p s w') (hn : lo ≤ n) :
    Calls Try.prog 55 #[.pointer (some ⟨p, 0, none⟩)] w' fun e w1 => e = .returned (.int .u32 ((s.get 4).1 : Nat)) ∧ Below lo W w1 := by
  refine (getR32 n hi p s w' hR).mono ?_
  rintro e w1 ⟨rfl, -, hc⟩
  have h1 : lo ≤ w'.heap.size := hs ▸ h.size
  exact ⟨rfl, h.trans (hc.below h1 fun k hk => by omega)⟩

/-- what a call of Decode leaves -/
def Decs (r : Nat × SP) (w : World) (e : Ending) (w' : World) : Prop :=
  ∃ oa cap, e = .returned (.tuple #[spv r.2 oa cap, .int .i64 (r.1 : Int)]) ∧ ORt w' oa cap r.2.roots ∧ (∀ k, blk oa = some k → w.heap.size ≤ k) ∧ Below w.heap.size w w'

set_option maxHeartbeats 4000000 in
theorem decode_any (bs : List UInt8) (a : Option Addr) (cap : Nat) (w : World) (hb : Bts w a bs) (hc : bs.length ≤ cap) (hl : bs.length ≤ 140737488355328) :
    Calls Try.prog 24 #[.slice a bs.length cap] w (Decs (sdec bs) w) := by
  by_cases h5 : bs.length = 512
  · have hne : bs ≠ [] := fun e => by rw [e] at h5; simp at h5
    obtain ⟨b0, off, rfl, hb0, -⟩ := hb.resolve_left hne
    have h5' : ((bs.length : Int) != 512) = false := by rw [h5]; rfl
    have hbB := one_below w (sBox 0 0 0 0 0 none 0 0)
    obtain ⟨lo, hlo⟩ : ∃ lo, lo = w.heap.size + 1 := ⟨_, rfl⟩
    have hsz : (w.alloc (sBox 0 0 0 0 0 none 0 0)).heap.size = lo := by rw [hlo]; simp
    have Hbt := Lib.hid fun (w' : World) (h : Below lo (w.alloc (sBox 0 0 0 0 0 none 0 0)) w') => (hb.below hbB).below (by rw [hsz]; exact h)
    have HB0 := Lib.hid hbB
    have Hg0 := Lib.hid (heap_alloc_new w (sBox 0 0 0 0 0 none 0 0))
    rw [h5] at hc ⊢
    have hdl : (bs.drop 508).length = 4 := by rw [List.length_drop, h5]
    have htl : (bs.take 508).length = 508 := by rw [List.length_take, h5]; rfl
    have H1 : ∀ w', Below lo (w.alloc (sBox 0 0 0 0 0 none 0 0)) w' → Calls Try.prog 56 #[.slice (some ⟨b0, off + 508, none⟩) 4 (cap - 508)] w' (NewRd lo (w.alloc (sBox 0 0 0 0 0 none 0 0)) (bs.drop 508)) := fun w' h => by
      have := newRd_any lo _ w' hsz h (some ⟨b0, off + 508, none⟩) (cap - 508) (bs.drop 508) ((Hbt.out w' h).dropN 508) (fun e => by cases e) (by omega)
      rw [hdl] at this
      exact this
    have H2 : ∀ w', Below lo (w.alloc (sBox 0 0 0 0 0 none 0 0)) w' → Calls Try.prog 52 #[.slice (some ⟨b0, off, none⟩) 508 cap] w' fun e w'' => e = .returned (.int .u32 (Crc.ofs (bs.take 508))) ∧ Below lo (w.alloc (sBox 0 0 0 0 0 none 0 0)) w'' := fun w' h => by
      have := sumOf_any (bs.take 508) (some ⟨b0, off, none⟩) cap (by omega) w' ((Hbt.out w' h).takeN 508)
      rw [htl] at this
      exact this.mono fun e w'' g => ⟨g.1, h.trans (g.2.mono (hsz ▸ h.size))⟩
    have hv : (((⟨bs.drop 508, 0⟩ : RS).get 4).1) = unle (bs.drop 508) := by
      unfold RS.get
      rw [if_neg (by simp), if_neg (by simp; omega)]
      simp only
      rw [List.take_of_length_le (by omega)]
    have H3 := fun w' (h : Below lo (w.alloc (sBox 0 0 0 0 0 none 0 0)) w') n hi p (hR : RAt n hi p ⟨bs.drop 508, 0⟩ w') (hn : lo ≤ n) => getRd_any lo _ w' hsz h n hi p _ hR hn
    rw [hv] at H3
    have H1 := Lib.hid H1
    have H2 := Lib.hid H2
    have H3 := Lib.hid H3
    have hcc : (cap : Int) - 508 = ((cap - 508 : Nat) : Int) := by omega
    have hcb : (508 : Int) ≤ (cap : Int) := by omega
    have hcn : ¬ cap = 508 := by omega
    have HD := Lib.hid (show sdec bs = if unle (bs.drop 508) ≠ Crc.ofs (bs.take 508) then (6, zeroS) else if scheck (sread bs) = 0 ∧ laid (sread bs) = bs then (0, sread bs) else (5, zeroS) by rw [sdec, if_neg (by simpa using h5)])
    generalize unle (bs.drop 508) = sv at H3 HD
    generalize Crc.ofs (bs.take 508) = sm at H2 HD
    have Hsz := Lib.hid hsz
    unfold sBox at H1 H2 H3 Hsz
    clear hb hbB h5' hv hsz hdl htl
    go_enter Try.func24, Try.ntmps24
    go_wp2_with fail
    go_region_held3 (fun w' => Below lo (w.alloc (.cells #[.int .i64 0, .int .i64 0, .int .i64 0, .int .i64 0, .int .i64 0, .slice none 0 0] 33)) w')
      (first
        | exact Below.drew (Below.refl _ _)
        | with_reducible assumption)
      (first
        | (go_at_call 56; ((with_reducible refine (H1.out _ (by assumption)).mono ?_); rintro e w1 ⟨n, hi, p, rfl, hR, hn, hbn⟩))
        | (go_at_call 55; ((with_reducible refine (H3.out _ hbn _ _ _ hR hn).mono ?_); rintro e w2 ⟨rfl, hbn2⟩))
        | (go_at_call 52; ((with_reducible refine (H2.out _ hbn2).mono ?_); rintro e w3 ⟨rfl, hbn3⟩)))
    have hlow : w.heap.size < lo := by omega
    have HB3 := Lib.hid (HB0.out.trans (hbn3.mono (by omega)))
    have Hlow3 := Lib.hid (show w.heap.size < w3.heap.size from Nat.lt_of_lt_of_le hlow (Nat.le_trans (Nat.le_of_eq Hsz.out.symm) hbn3.size))
    have HG3 := Lib.hid ((hbn3.block w.heap.size hlow).trans Hg0.out)
    have Hbt3 := Lib.hid (Hbt.out w3 hbn3)
    clear hbn hbn2 hbn3 hR hn Hbt H1 H2 H3 HB0 Hg0
    by_cases hss : sv = sm
    · rw [if_neg (by simpa using hss)] at HD
      subst hss
      have hbb : ((sv : Int) != (sv : Int)) = false := by simp
      have H := Lib.hid (read_any bs (some ⟨b0, off, none⟩) cap w3 Hbt3.out (fun e => by cases e) h5)
      go_wp2_with fail
      refine H.out.mono ?_
      clear H
      rintro _ w4 ⟨oa, oc, rfl, hO4, hof4, hb4⟩
      have hsp := readR_sp hO4
      have HD2 := Lib.hid (show sdec bs = if scheck (readR bs) = 0 ∧ laid (readR bs) = bs then (0, readR bs) else (5, zeroS) by
        rw [HD]
        by_cases g : scheck (readR bs) = 0 ∧ laid (readR bs) = bs
        · rw [if_pos g, if_pos ((sdec_readR h5).1 g), readR_eq h5 g.1]
        · rw [if_neg g, if_neg fun e => g ((sdec_readR h5).2 e)])
      generalize readR bs = S at hO4 hsp HD2
      have hb5 := one_below w4 (sBox S.gen S.cf.blocks S.cf.clones S.cf.refs S.next oa S.roots.length oc)
      have H := Lib.hid (encode_any S oa oc _ w4.heap.size hb5.size (hsp.below hb5))
      have hg5 := heap_alloc_new w4 (sBox S.gen S.cf.blocks S.cf.clones S.cf.refs S.next oa S.roots.length oc)
      have hz3 := HB3.out.size
      have hB4 := HB3.out.trans (hb4.mono hz3)
      have hz34 := hb4.size
      have hlw := HB3.out.size
      have hw3 : w.heap.size < w3.heap.size := Hlow3.out
      have hG5 := (hb5.block w.heap.size (by omega)).trans ((hb4.block w.heap.size hw3).trans HG3.out)
      have hBt5 := (Hbt3.out.below hb4).below hb5
      have hO5 := hO4.below hb5
      have Hg5 := Lib.hid hg5
      have HB5 := Lib.hid (hB4.trans (hb5.mono (by omega)))
      have HG5 := Lib.hid hG5
      have HBt5 := Lib.hid hBt5
      have HO5 := Lib.hid hO5
      have Hof := Lib.hid (show ∀ k, blk oa = some k → w.heap.size < k from fun k hk => by have := hof4 k hk; omega)
      have hw5 : w4.heap.size < (w4.alloc (sBox S.gen S.cf.blocks S.cf.clones S.cf.refs S.next oa S.roots.length oc)).heap.size := by simp
      have hwb : w.heap.size < w4.heap.size := by omega
      have Hw5 := Lib.hid hw5
      obtain ⟨gen, ⟨bl, cl, re⟩, nx, rs⟩ := S
      unfold sBox at H Hg5 HB5 HG5 HBt5 HO5 Hw5
      simp only [spv] at H Hg5 HB5 HG5 HBt5 HO5 Hw5 ⊢
      clear hO4 hsp hb5 hg5 hB4 hG5 hBt5 hO5 hof4 hb4 HD hw5
      go_wp2_with fail
      refine H.out.mono ?_
      clear H
      rintro _ w6 ⟨ea, ec, rfl, hE6, hef, hb6⟩
      have Hg6 := Lib.hid ((hb6.block _ Hw5.out).trans Hg5.out)
      have HB6 := Lib.hid (HB5.out.trans (hb6.mono HB5.out.size))
      have HG6 := Lib.hid ((hb6.block w.heap.size (Nat.lt_of_lt_of_le hwb (Nat.le_of_lt Hw5.out))).trans HG5.out)
      have HBt6 := Lib.hid (HBt5.out.below hb6)
      have HO6 := Lib.hid (HO5.out.below hb6)
      clear hb6
      by_cases hsc : scheck ⟨gen, ⟨bl, cl, re⟩, nx, rs⟩ = 0
      · have he : encB ⟨gen, ⟨bl, cl, re⟩, nx, rs⟩ = laid ⟨gen, ⟨bl, cl, re⟩, nx, rs⟩ := by rw [encB, if_pos hsc]
        have hll := laid_length (scheck_ok.1 hsc)
        have H := Lib.hid (equal_any bs (laid ⟨gen, ⟨bl, cl, re⟩, nx, rs⟩) (some ⟨b0, off, none⟩) ea cap ec w6 HBt6.out (by rw [← he]; exact hE6.bts))
        rw [h5, hll] at H
        rw [he, hll]
        rw [hsc]
        obtain ⟨y0, y1, y2, y3, y4, y5, -⟩ := cells6 Hg6.out
        obtain ⟨r0, r1, r2, r3, r4, r5, rf⟩ := cells6 HG6.out
        have f0 := rf 0
        have f1 := rf 1
        have f2 := rf 2
        have f3 := rf 3
        have f4 := rf 4
        have f5 := rf 5
        clear rf
        have HD3 := Lib.hid (show sdec bs = if bs = laid ⟨gen, ⟨bl, cl, re⟩, nx, rs⟩ then (0, ⟨gen, ⟨bl, cl, re⟩, nx, rs⟩) else (5, zeroS) by
          rw [HD2.out]
          by_cases g : bs = laid ⟨gen, ⟨bl, cl, re⟩, nx, rs⟩
          · rw [if_pos ⟨hsc, g.symm⟩, if_pos g]
          · rw [if_neg (fun e => g e.2.symm), if_neg g])
        clear he hll hE6 HD2
        by_cases hq : bs = laid ⟨gen, ⟨bl, cl, re⟩, nx, rs⟩
        · have HF := Lib.hid (show sdec bs = (0, ⟨gen, ⟨bl, cl, re⟩, nx, rs⟩) by rw [HD3.out, if_pos hq])
          rw [decide_eq_true hq] at H
          clear hq HD3 hsc
          go_wp2_with fail
          refine H.out.mono ?_
          clear H
          rintro _ _ ⟨rfl, rfl⟩
          go_wp2_with fail
          refine bodyPost_ret (v := .tuple #[.agg #[.int .i64 gen, .int .i64 bl, .int .i64 cl, .int .i64 re, .int .i64 nx, .slice oa rs.length oc], .int .i64 0]) (by simp [results, Try.results24, go_sem, r0, r1, r2, r3, r4, r5]) rfl ?_
          rw [HF.out]
          refine ⟨oa, oc, rfl, ?_, (fun k hk => Nat.le_of_lt (Hof.out k hk)), ?_⟩
          · refine OR.chg (F := fun k => k = w.heap.size) HO6.out ?_ (fun k hk e => by have := Hof.out k hk; omega)
            exact (((((((Chg.refl (fun j => j = w.heap.size) _).setCell ⟨w.heap.size, 0, none⟩ _ (fun _ => rfl)).setCell ⟨w.heap.size, 1, none⟩ _ (fun _ => rfl)).setCell ⟨w.heap.size, 2, none⟩ _ (fun _ => rfl)).setCell ⟨w.heap.size, 3, none⟩ _ (fun _ => rfl)).setCell ⟨w.heap.size, 4, none⟩ _ (fun _ => rfl)).setCell ⟨w.heap.size, 5, none⟩ _ (fun _ => rfl))
          · exact (((((HB6.out.setCell (Nat.le_refl _) _).setCell (Nat.le_refl _) _).setCell (Nat.le_refl _) _).setCell (Nat.le_refl _) _).setCell (Nat.le_refl _) _).setCell (Nat.le_refl _) _
        · have HF := Lib.hid (show sdec bs = (5, zeroS) by rw [HD3.out, if_neg hq])
          rw [decide_eq_false hq] at H
          clear hq HD3 hsc y0 y1 y2 y3 y4 y5
          go_wp2_with fail
          refine H.out.mono ?_
          clear H
          rintro _ _ ⟨rfl, rfl⟩
          go_wp2_with fail
          refine bodyPost_ret (v := .tuple #[.agg #[.int .i64 0, .int .i64 0, .int .i64 0, .int .i64 0, .int .i64 0, .slice none 0 0], .int .i64 5]) (by simp [results, Try.results24, go_sem, r0, r1, r2, r3, r4, r5]) rfl ?_
          rw [HF.out]
          refine ⟨none, 0, rfl, OR.nil _ _, (fun k hk => by cases hk), ?_⟩
          exact (((((HB6.out.setCell (Nat.le_refl _) _).setCell (Nat.le_refl _) _).setCell (Nat.le_refl _) _).setCell (Nat.le_refl _) _).setCell (Nat.le_refl _) _).setCell (Nat.le_refl _) _
      · have HF := Lib.hid (show sdec bs = (5, zeroS) by rw [HD2.out, if_neg (fun e => hsc e.1)])
        have hle := scheck_le ⟨gen, ⟨bl, cl, re⟩, nx, rs⟩
        have hne' : ((scheck ⟨gen, ⟨bl, cl, re⟩, nx, rs⟩ : Int) != 0) = true := by rw [bne_iff_ne]; omega
        generalize scheck ⟨gen, ⟨bl, cl, re⟩, nx, rs⟩ = sc at hne'
        generalize (encB ⟨gen, ⟨bl, cl, re⟩, nx, rs⟩).length = el
        obtain ⟨r0, r1, r2, r3, r4, r5, rf⟩ := cells6 HG6.out
        have f0 := rf 0
        have f1 := rf 1
        have f2 := rf 2
        have f3 := rf 3
        have f4 := rf 4
        have f5 := rf 5
        clear rf
        clear HD2 hsc hle hE6
        go_wp2_with fail
        refine bodyPost_ret (v := .tuple #[.agg #[.int .i64 0, .int .i64 0, .int .i64 0, .int .i64 0, .int .i64 0, .slice none 0 0], .int .i64 5]) (by simp [results, Try.results24, go_sem, r0, r1, r2, r3, r4, r5]) rfl ?_
        rw [HF.out]
        refine ⟨none, 0, rfl, OR.nil _ _, (fun k hk => by cases hk), ?_⟩
        exact (((((HB6.out.setCell (Nat.le_refl _) _).setCell (Nat.le_refl _) _).setCell (Nat.le_refl _) _).setCell (Nat.le_refl _) _).setCell (Nat.le_refl _) _).setCell (Nat.le_refl _) _
    · rw [if_pos hss] at HD
      have hbb : ((sv : Int) != (sm : Int)) = true := by rw [bne_iff_ne]; omega
      obtain ⟨r0, r1, r2, r3, r4, r5, rf⟩ := cells6 HG3.out
      have f0 := rf 0
      have f1 := rf 1
      have f2 := rf 2
      have f3 := rf 3
      have f4 := rf 4
      have f5 := rf 5
      clear rf
      go_wp2_with fail
      refine bodyPost_ret (v := .tuple #[.agg #[.int .i64 0, .int .i64 0, .int .i64 0, .int .i64 0, .int .i64 0, .slice none 0 0], .int .i64 6]) (by simp [results, Try.results24, go_sem, r0, r1, r2, r3, r4, r5]) rfl ?_
      rw [HD.out]
      refine ⟨none, 0, rfl, OR.nil _ _, (fun k hk => by cases hk), ?_⟩
      exact (((((HB3.out.setCell (Nat.le_refl _) _).setCell (Nat.le_refl _) _).setCell (Nat.le_refl _) _).setCell (Nat.le_refl _) _).setCell (Nat.le_refl _) _).setCell (Nat.le_refl _) _
  · have HD := Lib.hid (show sdec bs = (1, zeroS) by rw [sdec, if_pos h5])
    have h5' : ((bs.length : Int) == 512) = false := by rw [beq_eq_false_iff_ne]; omega
    have h5'' : ((bs.length : Int) != 512) = true := by rw [bne_iff_ne]; omega
    generalize bs.length = n at h5' h5'' ⊢
    have HB := Lib.hid (one_below w)
    clear hb hc hl h5
    go_enter Try.func24, Try.ntmps24
    go_wp2_with fail
    refine bodyPost_ret (v := .tuple #[.agg #[.int .i64 0, .int .i64 0, .int .i64 0, .int .i64 0, .int .i64 0, .slice none 0 0], .int .i64 1]) (by simp [results, Try.results24, go_sem]) rfl ?_
    rw [HD.out]
    exact ⟨none, 0, rfl, OR.nil _ _, (fun k hk => by cases hk), HB.out _⟩
end Go.Proofs.Ythkopgmkdenebaa

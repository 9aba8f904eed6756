/- spare of chapter 9: a superblock with roots of its own, and two marked places behind them. -/
import Derived.Test.YthkopgmkdenebaaSupX
namespace Go.Proofs.Ythkopgmkdenebaa
open Go.ChangeShapes Go.WideShapes Go.ChangeAt Go.RowKit
set_option linter.unusedVariables false
set_option maxRecDepth 100000

section
variable {H : Type} {enc : TypeId × Value → H}
/-- .. and how many roots there can be -/
theorem open_super2 {W : World} {b : Nat} {v : Value} {d : DataW H} {q : List MemPlace} (hv : Value.okWide Try.prog W .any b 33 v)
    (h : DataW.Trod enc Try.prog W 0 (fun _ => true) true 33 v d q) (hz : ∀ n ∈ DataW.weights Try.prog 33 d, n ≤ reachBytes) :
    ∃ s a cap, v = spv s a cap ∧ SpAt W.heap.size W s a cap ∧ s.roots.length ≤ 4398046511000 := by
  obtain ⟨cs, rfl, hsz⟩ := okWide_struct Try.underlying33 hv
  obtain ⟨l⟩ := cs
  obtain ⟨fuel, hf⟩ := h
  match l, hsz.trans cellsSp with
  | [c0, c1, c2, c3, c4, c5], _ =>
    have hf' : Rd enc Try.prog W fuel 33 [c0, c1, c2, c3, c4, c5] = some (d, q) := hf
    obtain ⟨m2, _, hfl⟩ := rd_fields Try.underlying33 hf'
    obtain ⟨y0, r0, _⟩ := hfl 0 _ rfl
    obtain ⟨y1, r1, _⟩ := hfl 1 _ rfl
    obtain ⟨y2, r2, _⟩ := hfl 2 _ rfl
    obtain ⟨y3, r3, w3⟩ := hfl 3 _ rfl
    obtain ⟨v0, rfl, k0⟩ := rd_int (c := c0) Try.underlying3 r0
    obtain ⟨v1, v2, v3, rfl, rfl, rfl, k1, k2, k3⟩ := rd_cf (c0 := c1) (c1 := c2) (c2 := c3) r1
    obtain ⟨v4, rfl, k4⟩ := rd_int (c := c4) Try.underlying3 r2
    obtain ⟨a, cap, xs, rfl, hi, ho, hl, hm, hn⟩ := rd_roots (c := c5) r3 (fun q hq => hz q (w3 q hq))
    exact ⟨⟨v0, ⟨v1, v2, v3⟩, v4, xs⟩, a, cap, rfl, ⟨hi, ho, by show xs.length ≤ _; omega, hn, i64_le k0, k1, k2, k3, i64_le k4⟩, by show xs.length ≤ _; omega⟩
end

def rt0 : RT := ⟨0, 0, 0, 0⟩
def markR (i : Nat) : RT := ⟨-5 - (i : Int), 0, 0, 0⟩
/-- the roots, and the marks behind them -/
def markedR (rs : List RT) : List RT := rs ++ [markR rs.length, markR (rs.length + 1)]
theorem markedR_length (rs : List RT) : (markedR rs).length = rs.length + 2 := by simp [markedR]
theorem cellsR_append (a b : List RT) : cellsR (a ++ b) = cellsR a ++ cellsR b := by simp [cellsR]
theorem cellsR_cons (r : RT) (rs : List RT) : cellsR (r :: rs) = [.int .i64 r.id, .int .i64 r.root, .int .i64 r.height, .int .i64 r.items] ++ cellsR rs := rfl
theorem cellsR_set : ∀ (rs : List RT) (i : Nat) (x : RT), i < rs.length → cellsR (rs.set i x) = ((((cellsR rs).set (i * 4) (.int .i64 x.id)).set (i * 4 + 1) (.int .i64 x.root)).set (i * 4 + 2) (.int .i64 x.height)).set (i * 4 + 3) (.int .i64 x.items)
  | [], i, x, h => by simp at h
  | r :: rs, 0, x, h => by
    rw [List.set_cons_zero, cellsR_cons, cellsR_cons]
    simp
  | r :: rs, i + 1, x, h => by
    have ih := cellsR_set rs i x (by simpa using h)
    rw [List.set_cons_succ, cellsR_cons, cellsR_cons, ih]
    rw [show (i + 1) * 4 = 4 + i * 4 by omega, show 4 + i * 4 + 1 = 4 + (i * 4 + 1) by omega, show 4 + i * 4 + 2 = 4 + (i * 4 + 2) by omega, show 4 + i * 4 + 3 = 4 + (i * 4 + 3) by omega]
    simp [Nat.add_comm 4]
theorem make_roots (w : World) (m : Nat) (hm : m ≤ 4398046511002) : ∃ w', (Instr.makeSlice 31 (.int .i64 (m : Int)) (.int .i64 (m : Int))).run Try.prog w = .ok (.slice (some ⟨w.heap.size, 0, none⟩) m m) w' ∧ OR eRt w' (some ⟨w.heap.size, 0, none⟩) m m (cellsR (List.replicate m rt0)) ∧ Below w.heap.size w w' ∧ w.heap.size < w'.heap.size := by
  obtain ⟨i0, hi, hz0, hz1, hz2⟩ := info_parts eRt.hi
  obtain ⟨w', hr, ho, hg⟩ := run_make_full (P := Try.prog) (w := w) 0 31 50 i0 (.agg #[.int .i64 0, .int .i64 0, .int .i64 0, .int .i64 0]) 4 eRt.hu hi hz0 hz1 .i64 .i64 m (by rw [hz2]; show 32 * m ≤ _; omega) (by unfold maxLen; omega) (Nat.zero_le _)
  have hO : OR eRt w' (some ⟨w.heap.size, 0, none⟩) m m (cellsR (List.replicate m rt0)) := by
    have e : (madeCells (Value.agg #[.int .i64 0, .int .i64 0, .int .i64 0, .int .i64 0]).cells (m * 4)).toList = cellsR (List.replicate m rt0) := by
      have ec : cellsR (List.replicate m rt0) = List.replicate (m * 4) (.int .i64 0) := by
        clear hr ho hg hm
        induction m with
        | zero => rfl
        | succ m ih =>
          rw [List.replicate_succ, cellsR_cons, ih, show (m + 1) * 4 = 4 + m * 4 by omega, ← List.replicate_append_replicate]
          rfl
      rw [ec]
      apply List.ext_getElem?
      intro i
      have h01 : ∀ i : Nat, #[Value.int .i64 0, Value.int .i64 0, Value.int .i64 0, Value.int .i64 0][i % 4]! = Value.int .i64 0 := fun i => by
        have : i % 4 < 4 := Nat.mod_lt _ (by omega)
        rcases (by omega : i % 4 = 0 ∨ i % 4 = 1 ∨ i % 4 = 2 ∨ i % 4 = 3) with h | h | h | h <;> rw [h] <;> rfl
      simp only [madeCells, Value.cells, h01, List.size_toArray, List.length_cons, List.length_nil, Array.toList_map, List.getElem?_map, List.getElem?_replicate, Array.toList_range]
      by_cases h : i < m * 4
      · simp [h]
      · simp [h]
    rw [e] at ho
    exact ho
  exact ⟨w', hr, hO, (Below.refl _ _).grown hg (Nat.le_refl _) (fun k hk => by cases hk), hO.lt _ rfl⟩

/-- what spare leaves: the superblock, its roots in a block with marks behind them -/
def SparedR (w : World) (g : Nat) (s : SP) : Prop := OR eRt w (some ⟨g, 0, none⟩) (s.roots.length + 2) (s.roots.length + 2) (cellsR (markedR s.roots))
def NewSpareR (s : SP) (w : World) (e : Ending) (w' : World) : Prop := ∃ g, e = .returned (spv s (some ⟨g, 0, none⟩) (s.roots.length + 2)) ∧ SparedR w' g s ∧ w.heap.size ≤ g ∧ Below w.heap.size w w'
def RelS (W : World) (B g : Nat) (rs : List RT) (i : Value) (wr : World) : Prop :=
  ∃ (k : Nat) (cur : List RT), k ≤ rs.length + 2 ∧ i = .int .i64 k ∧ OR eRt wr (some ⟨g, 0, none⟩) (rs.length + 2) (rs.length + 2) (cellsR cur) ∧ cur.length = rs.length + 2 ∧ (∀ j, j < k → cur[j]? = (markedR rs)[j]?) ∧ Chg (fun k => B ≤ k) W wr

set_option maxHeartbeats 4000000 in
theorem spareS_any (s : SP) (a : Option Addr) (cap : Nat) (w : World) (B : Nat) (hB : B ≤ w.heap.size) (hs : SpAt B w s a cap) (hl : s.roots.length ≤ 4398046511000) :
    Calls Try.prog 18 #[spv s a cap] w (NewSpareR s w) := by
  have Hs := Lib.hid hs
  obtain ⟨gen, ⟨bl, cl, re⟩, nx, rs⟩ := s
  simp only [spv] at hl ⊢
  obtain ⟨n, hn⟩ : ∃ n, rs.length = n := ⟨_, rfl⟩
  have Hn := Lib.hid hn
  rw [hn] at hl ⊢
  obtain ⟨w2, hmk, hO2, hB2, hz2⟩ := make_roots ((w.alloc (sBox gen bl cl re nx a n cap)).alloc (sBox 0 0 0 0 0 none 0 0)) (n + 2) (by omega)
  have hsz : ((w.alloc (sBox gen bl cl re nx a n cap)).alloc (sBox 0 0 0 0 0 none 0 0)).heap.size = w.heap.size + 2 := by simp
  rw [hsz] at hmk hO2 hB2 hz2
  rw [show ((n + 2 : Nat) : Int) = (n : Int) + 2 from rfl] at hmk
  have hS2 : w2.heap[w.heap.size]? = some (sBox gen bl cl re nx a n cap) := (hB2.block w.heap.size (by omega)).trans ((heap_alloc_old _ _ (by simp)).trans (heap_alloc_new w _))
  have hR2 : w2.heap[w.heap.size + 1]? = some (sBox 0 0 0 0 0 none 0 0) := (hB2.block (w.heap.size + 1) (by omega)).trans (by
    have h1 := heap_alloc_new (w.alloc (sBox gen bl cl re nx a n cap)) (sBox 0 0 0 0 0 none 0 0)
    have h2 : (w.alloc (sBox gen bl cl re nx a n cap)).heap.size = w.heap.size + 1 := by simp
    rw [h2] at h1; exact h1)
  have HB2 := Lib.hid ((two_below w (sBox gen bl cl re nx a n cap) (sBox 0 0 0 0 0 none 0 0)).trans (hB2.mono (by omega)))
  have HO2 := Lib.hid hO2
  have HS2 := Lib.hid hS2
  have HR2 := Lib.hid hR2
  unfold sBox at hmk
  clear hs hn hO2 hB2 hS2 hR2 hsz
  go_enter Try.func18, Try.ntmps18
  go_wp2_with fail
  clear hmk
  go_loopw [4] (fun i wr => RelS w2 (w.heap.size + 2) (w.heap.size + 2) rs i wr) (fun i _ => n + 2 - (intOf i).toNat)
  case atStart => exact ⟨0, List.replicate (n + 2) rt0, Nat.zero_le _, rfl, by rw [Hn.out]; exact HO2.out, by rw [Hn.out]; simp, fun j hj => by omega, Chg.refl _ _⟩
  case round =>
    obtain ⟨k, cur, hk, rfl, hO, hcl, hE, hc⟩ := hrel
    rw [Hn.out] at hk hO hcl
    have hS := (hc.block w.heap.size (by omega) (fun e => by omega)).trans HS2.out
    obtain ⟨y0, y1, y2, y3, y4, y5, -⟩ := cells6 hS
    by_cases hlt : k < n + 2
    · have hkc : k < cur.length := by omega
      obtain ⟨ck, hck⟩ : ∃ ck, cur[k]? = some ck := ⟨_, List.getElem?_eq_getElem hkc⟩
      obtain ⟨m0, m1, m2, m3⟩ := cellsR_get hck
      obtain ⟨_, e0, k0, f0⟩ := OR.cell hO m0
      obtain ⟨_, e1, k1, f1⟩ := OR.cell hO m1
      obtain ⟨_, e2, k2, f2⟩ := OR.cell hO m2
      obtain ⟨_, e3, k3, f3⟩ := OR.cell hO m3
      cases e0; cases e1; cases e2; cases e3
      clear m0 m1 m2 m3 hS
      have hlen4 := cellsR_length cur
      have HE := Lib.hid hE
      have Hc := Lib.hid hc
      have HO := Lib.hid hO
      have fin : ∀ x : RT, (markedR rs)[k]? = some x → RelS w2 (w.heap.size + 2) (w.heap.size + 2) rs (.int .i64 ((k + 1 : Nat) : Int)) ((((wr.setCell ⟨w.heap.size + 2, k * 4, none⟩ (.int .i64 x.id)).setCell ⟨w.heap.size + 2, k * 4 + 1, none⟩ (.int .i64 x.root)).setCell ⟨w.heap.size + 2, k * 4 + 2, none⟩ (.int .i64 x.height)).setCell ⟨w.heap.size + 2, k * 4 + 3, none⟩ (.int .i64 x.items)) := fun x hx => by
        refine ⟨k + 1, cur.set k x, by rw [Hn.out]; omega, rfl, ?_, by rw [List.length_set, hcl, Hn.out], fun j hj => ?_, ?_⟩
        · rw [Hn.out, cellsR_set cur k x hkc]
          exact ((((HO.out.set (k * 4) _ (by omega)).set (k * 4 + 1) _ (by rw [List.length_set]; omega)).set (k * 4 + 2) _ (by rw [List.length_set, List.length_set]; omega)).set (k * 4 + 3) _ (by rw [List.length_set, List.length_set, List.length_set]; omega))
        · rcases Nat.lt_succ_iff_lt_or_eq.1 hj with h | rfl
          · rw [List.getElem?_set_ne (by omega)]; exact HE.out j h
          · rw [List.getElem?_set_self hkc, hx]
        · exact (((Hc.out.setCell ⟨w.heap.size + 2, k * 4, none⟩ _ (fun _ => Nat.le_refl _)).setCell ⟨w.heap.size + 2, k * 4 + 1, none⟩ _ (fun _ => Nat.le_refl _)).setCell ⟨w.heap.size + 2, k * 4 + 2, none⟩ _ (fun _ => Nat.le_refl _)).setCell ⟨w.heap.size + 2, k * 4 + 3, none⟩ _ (fun _ => Nat.le_refl _)
      by_cases hkn : k < n
      · obtain ⟨x, hxk⟩ : ∃ x, rs[k]? = some x := ⟨_, List.getElem?_eq_getElem (by rw [Hn.out]; exact hkn)⟩
        have hBr : Below B w wr := (HB2.out.trans (hc.below (B := w.heap.size) (by omega) (fun j hj => by omega))).mono hB
        obtain ⟨b, off, rfl, hb, ⟨c0, c1, c2, c3⟩⟩ := (Hs.out.rts.below hBr).at hxk
        have hmx : (markedR rs)[k]? = some x := by rw [markedR, List.getElem?_append_left (by rw [Hn.out]; exact hkn)]; exact hxk
        have Fin := Lib.hid (fin x hmx)
        clear fin hE hc hO hck hxk hBr hmx
        go_wp2_with fail
        exact ⟨Fin.out, by simp [intOf]; omega⟩
      · have hmx : (markedR rs)[k]? = some (markR k) := by
          rw [markedR, List.getElem?_append_right (by rw [Hn.out]; omega), Hn.out]
          rcases (by omega : k = n ∨ k = n + 1) with rfl | rfl
          · simp
          · simp
        have Fin := fin (markR k) hmx
        simp only [markR] at Fin
        have Fin := Lib.hid Fin
        clear fin hE hc hO hck hmx
        go_wp2_with fail
        exact ⟨Fin.out, by simp [intOf]; omega⟩
    · have hkn : k = n + 2 := by omega
      have hcur : cur = markedR rs := by
        apply List.ext_getElem?
        intro j
        by_cases hj : j < k
        · exact hE j hj
        · rw [List.getElem?_eq_none (by omega), List.getElem?_eq_none (by rw [markedR_length, Hn.out]; omega)]
      subst hcur
      have hRr := (hc.block (w.heap.size + 1) (by omega) (fun e => by omega)).trans HR2.out
      have hB3 : Below w.heap.size w wr := HB2.out.trans (hc.below (B := w.heap.size) (by omega) (fun j hj => by omega))
      have hwr := hc.size
      have hb4 := one_below wr (sBox gen bl cl re nx a n cap)
      have hb5 := one_below wr (sBox gen bl cl re nx (some ⟨w.heap.size + 2, 0, none⟩) n (n + 2))
      have hR4 := (hb5.block (w.heap.size + 1) (by omega)).trans hRr
      obtain ⟨r0, r1, r2, r3, r4, r5, rf⟩ := cells6 hR4
      have f0 := rf 0
      have f1 := rf 1
      have f2 := rf 2
      have f3 := rf 3
      have f4 := rf 4
      have f5 := rf 5
      have hS4 := (hb4.block w.heap.size (by omega)).trans hS
      obtain ⟨x0, x1, x2, x3, x4, x5, -⟩ := cells6 hS4
      have HO4 := Lib.hid (hO.chg (F := fun _ => False) (Chg.of_below hb5) (fun _ _ f => f))
      have HB4 := Lib.hid (hB3.trans (hb5.mono (by omega)))
      clear hE hcl hO hc hRr hR4 rf hS hS4 hB3 hb4 hb5
      unfold sBox at r0 r1 r2 r3 r4 r5 f0 f1 f2 f3 f4 f5 x0 x1 x2 x3 x4 x5 HO4 HB4
      go_wp2_with fail
      refine bodyPost_ret (v := .agg #[.int .i64 gen, .int .i64 bl, .int .i64 cl, .int .i64 re, .int .i64 nx, .slice (some ⟨w.heap.size + 2, 0, none⟩) n (n + 2)]) (by simp [results, Try.results18, go_sem, r0, r1, r2, r3, r4, r5]) rfl ?_
      refine ⟨w.heap.size + 2, by simp only [spv, Hn.out], ?_, by omega, ?_⟩
      · unfold SparedR
        simp only [Hn.out]
        refine OR.chg (F := fun k => k = w.heap.size + 1) HO4.out ?_ (fun k hk e => by have h2 : w.heap.size + 2 = k := Option.some.inj hk; omega)
        exact (((((((Chg.refl (fun j => j = w.heap.size + 1) _).setCell ⟨w.heap.size + 1, 0, none⟩ _ (fun _ => rfl)).setCell ⟨w.heap.size + 1, 1, none⟩ _ (fun _ => rfl)).setCell ⟨w.heap.size + 1, 2, none⟩ _ (fun _ => rfl)).setCell ⟨w.heap.size + 1, 3, none⟩ _ (fun _ => rfl)).setCell ⟨w.heap.size + 1, 4, none⟩ _ (fun _ => rfl)).setCell ⟨w.heap.size + 1, 5, none⟩ _ (fun _ => rfl))
      · exact (((((HB4.out.setCell (Nat.le_succ _) _).setCell (Nat.le_succ _) _).setCell (Nat.le_succ _) _).setCell (Nat.le_succ _) _).setCell (Nat.le_succ _) _).setCell (Nat.le_succ _) _
end Go.Proofs.Ythkopgmkdenebaa

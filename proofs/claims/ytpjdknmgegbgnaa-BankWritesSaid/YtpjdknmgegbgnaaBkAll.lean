/- The blocks of two answers side by side, for Apart. -/
import Derived.Test.YtpjdknmgegbgnaaBkSp
import Derived.Test.YtpjdknmgegbgnaaApart
namespace Go.Proofs.Ytpjdknmgegbgnaa
open Go.ChangeShapes Go.WideShapes Go.ChangeAt Go.RowKit
set_option linter.unusedVariables false
set_option maxRecDepth 100000

def lstR (r : Row) : Lst := ⟨r.2.1, r.2.2, r.1.length⟩
def RelAll (W : World) (pre rs : List Row) (m n : Nat) (o v : Value) (wr : World) : Prop :=
  ∃ (k : Nat) (al : Option Addr) (ac : Nat), k ≤ n ∧ v = .int .i64 k ∧ o = .slice al (m + k) ac ∧ OR eSl wr al ac (m + k) (cellsRw (pre ++ rs.take k)) ∧ (∀ j, blk al = some j → W.heap.size ≤ j) ∧ Below W.heap.size W wr
theorem relAll_next {W wr w1 w2 : World} {pre rs : List Row} {m n k : Nat} {al al2 : Option Addr} {ac2 : Nat} {r : Row} (hk : k < n) (hr : rs[k]? = some r) (ho : ∀ j, blk al = some j → W.heap.size ≤ j) (hB : Below W.heap.size W wr) (h1 : Below wr.heap.size wr w1)
    (hO : OR eSl w2 al2 ac2 (m + k + 1) (cellsRw (pre ++ rs.take k) ++ [cellR r])) (hC : Chg (fun j => blk al = some j) w1 w2) (hb2 : blk al2 = blk al ∨ blk al2 = some w1.heap.size) {i : Value} (hi : i = .int .i64 ((k + 1 : Nat) : Int)) :
    RelAll W pre rs m n (.slice al2 (m + (k + 1)) ac2) i w2 := by
  subst hi
  have hB1 := hB.trans (h1.mono hB.size)
  have ht : rs.take (k + 1) = rs.take k ++ [r] := by rw [List.take_add_one, hr]; rfl
  refine ⟨k + 1, al2, ac2, hk, rfl, rfl, ?_, fun j e => ?_, hB1.trans (hC.below hB1.size ho)⟩
  · rw [ht, ← List.append_assoc]
    have : cellsRw (pre ++ rs.take k ++ [r]) = cellsRw (pre ++ rs.take k) ++ [cellR r] := by simp [cellsRw]
    rw [this]; exact hO
  · rcases hb2 with hb2 | hb2
    · exact ho j (hb2 ▸ e)
    · rw [hb2] at e; cases e; exact hB1.size
theorem all_lrow {w : World} {al : Option Addr} {ac n : Nat} {rs : List Row} (h : OR eSl w al ac n (cellsRw rs)) : LRow w al (rs.map lstR) := by
  rcases h.form.2 with ⟨_, _, h0, _⟩ | ⟨g, e, hg, _⟩
  · refine .inl ?_
    have h1 := h.form.1
    rw [cellsRw_length] at h1
    rw [List.map_eq_nil_iff, ← List.length_eq_zero_iff, h1, h0]; rfl
  · refine .inr ⟨g, 0, e, hg, fun i x hx => ?_⟩
    rw [List.getElem?_map] at hx
    obtain ⟨r, hr, rfl⟩ := Option.map_eq_some_iff.1 hx
    obtain ⟨g', e', hcell, _⟩ := h.cell (j := i) (u := cellR r) (by simp [cellsRw, hr])
    rw [e] at e'; cases e'
    rw [Nat.zero_add]; exact hcell
theorem all_sep {lo hi : Nat} {rs : List Row} (h : Up lo hi (adrR rs)) : SepL (rs.map lstR) := by
  intro i j e f he hf hij k hk
  rw [List.getElem?_map] at he hf
  obtain ⟨r, hr, rfl⟩ := Option.map_eq_some_iff.1 he
  obtain ⟨s, hs, rfl⟩ := Option.map_eq_some_iff.1 hf
  exact up_sep h i j _ _ (by simp only [adrR, List.getElem?_map, hr]; rfl) (by simp only [adrR, List.getElem?_map, hs]; rfl) hij k hk
theorem all_mine {lo hi : Nat} {rs : List Row} (h : Up lo hi (adrR rs)) {k : Nat} (hk : mine (rs.map lstR) k) : lo ≤ k ∧ k < hi := by
  obtain ⟨e, he, hk⟩ := hk
  obtain ⟨r, hr, rfl⟩ := List.mem_map.1 he
  exact h.mem _ (mem_adrR hr) k hk
/-- Apart of blocks that lie apart -/
theorem apart_rows {w : World} {lo hi : Nat} {al : Option Addr} {ac : Nat} {rs : List Row} {n : Nat} (hn : rs.length = n) (hlen : n ≤ 1000000) (hl : ∀ r ∈ rs, r.1.length ≤ 512) (hO : OR eSl w al ac n (cellsRw rs)) (hal : ∀ j, blk al = some j → hi ≤ j) (hup : Up lo hi (adrR rs)) (hob : ∀ r ∈ rs, OB w r.2.1 r.2.2 r.1) {B : Nat} (hB : B ≤ w.heap.size) (hlo : B ≤ lo) :
    Calls Try.prog 15 #[.slice al n ac] w fun x w' => x = .returned (.bool true) ∧ Below B w w' := by
  have H := ApB.apart_any al ac (rs.map lstR) (by rw [List.length_map, hn]; exact hlen) (fun e he => by
    obtain ⟨r, hr, rfl⟩ := List.mem_map.1 he
    have := hl r hr
    show r.1.length ≤ _
    omega) (all_sep hup) w (all_lrow hO) (fun b hb hm => by have := (all_mine hup hm).2; have := hal b hb; omega) (fun b hb => hO.lt b hb) (fun e he => by
    obtain ⟨r, hr, rfl⟩ := List.mem_map.1 he
    exact ⟨_, hob r hr⟩)
  rw [List.length_map, hn] at H
  refine H.mono ?_
  rintro _ w' ⟨rfl, hC⟩
  exact ⟨rfl, hC.below hB (fun k hk => Nat.le_trans hlo (all_mine hup hk).1)⟩
theorem benc_small (gen : Int) (cs : List Int) : (benc gen cs).2.length ≤ 274 ∧ ∀ b ∈ (benc gen cs).2, b.length = 512 := by
  unfold benc
  split
  · exact ⟨by simp, fun b hb => by cases hb⟩
  · split
    · exact ⟨by simp, fun b hb => by cases hb⟩
    · split
      · exact ⟨by simp, fun b hb => by cases hb⟩
      · refine ⟨?_, fun b hb => ?_⟩
        · rw [List.length_map, List.length_range]; exact nblocks_le (by omega)
        · obtain ⟨i, _, rfl⟩ := List.mem_map.1 hb
          exact blk1_length (by rw [part_length]; exact inBlk_le _ _)
/-- a list written over -/
def RelOv (W : World) (g n : Nat) (v : Value) (wr : World) : Prop := ∃ (k : Nat) (cur : List Int), k ≤ n ∧ v = .int .i64 k ∧ ON wr (some ⟨g, 0, none⟩) (n + 64) cur ∧ cur.length = n + 64 ∧ Chg (fun j => j = g) W wr
theorem IsRow.cap_i64 {H : Type} {enc : TypeId × Value → H} {W : World} {a : Option Addr} {len cap : Nat} {d : DataW H} {p : List MemPlace}
    (h : DataW.Trod enc Try.prog W 0 (fun _ => true) true 22 (Value.slice a len cap) d p) (hz : ∀ n ∈ DataW.weights Try.prog 22 d, n ≤ reachBytes) : ∃ zs, IsRow .i64 W a len cap zs ∧ cap ≤ 17592186043904 := by
  obtain ⟨fuel, hf⟩ := h
  have hb8 : Try.prog.bytesOf 3 = 8 := by kernel_rfl
  rcases open_ints Try.underlying22 Try.underlying3 (by kernel_rfl) hf with ⟨hcs, _⟩ | ⟨x, l, c, zs, hcs, _, hl, hm, hzs, hx, hcell, hwz⟩
  · simp [Value.cells] at hcs
    obtain ⟨rfl, rfl, rfl⟩ := hcs
    exact ⟨[], .inl ⟨rfl, rfl, rfl, rfl⟩, by omega⟩
  · simp [Value.cells] at hcs
    obtain ⟨rfl, rfl, rfl⟩ := hcs
    simp only [Prod.mk.injEq] at hx
    obtain ⟨rfl, _⟩ := hx
    simp only [if_true] at hzs
    have h1 := hz (((lits (H := H) .i64 (zs.take len)).length + (lits (H := H) .i64 (zs.drop len)).length) * Try.prog.bytesOf 3) (by simp [DataW.weights, Try.underlying22])
    rw [hb8] at h1
    simp only [lits, List.length_map, List.length_take, List.length_drop, reachBytes] at h1
    exact ⟨zs, .inr ⟨_, rfl, hl, hm, hzs, hcell, hwz⟩, by omega⟩
end Go.Proofs.Ytpjdknmgegbgnaa

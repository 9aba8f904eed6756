/- The program's Encode: what it is to leave, and what its loop keeps. -/
import Derived.Test.YtkjgncmbhkhbnaaPLow
import Derived.Test.YtkjgncmbhkhbnaaPChkM
import Derived.Test.YtkjgncmbhkhbnaaDChk
import Derived.Test.YtkjgncmbhkhbnaaSumC
import Derived.Deep.Cut
import Derived.Deep.CutRange
import Derived.Deep.RegionLaw
namespace Go.Proofs.Ytkjgncmbhkhbnaa
open Go.RowKit
set_option linter.unusedVariables false
set_option maxRecDepth 100000

/-- what Encode answers -/
def penc (no gen : Int) (p : PP) : Int × List UInt8 :=
  if isPg no = false then (15, []) else if gen < 0 ∨ 1099511627776 < gen then (1, []) else if pcheck p ≠ 0 then (pcheck p, []) else (0, pblock no.toNat gen.toNat p)
def Encd (r : Int × List UInt8) (w : World) (x : Ending) (w' : World) : Prop :=
  ∃ oa cap, x = .returned (.tuple #[.slice oa r.2.length cap, .int .i64 r.1]) ∧ OB w' oa cap r.2 ∧ (∀ k, blk oa = some k → w.heap.size ≤ k) ∧ Below w.heap.size w w'
theorem encd_ok {w w' : World} {g : Nat} {bs : List UInt8} (hl : bs.length = 512) (hE : EB w' g bs) (hb : Below w.heap.size w w') (hg : w.heap.size ≤ g) : Encd (0, bs) w (.returned (.tuple #[.slice (some ⟨g, 0, none⟩) 512 512, .int .i64 0])) w' :=
  ⟨some ⟨g, 0, none⟩, 512, by simp only; rw [hl], hE.ob, fun k hk => by cases hk; exact hg, hb⟩
theorem encd_no {w w' : World} {e : Int} (hb : Below w.heap.size w w') : Encd (e, []) w (.returned (.tuple #[.slice none 0 0, .int .i64 e])) w' :=
  ⟨none, 0, rfl, OB.nil _, fun k hk => (by cases hk), hb⟩
theorem DB.chg {w0 : World} {p : PP} {ia : Option Addr} {ic : Nat} {da : Option Addr} {dc : Nat} {w w' : World} (h : DB w0 p ia ic da dc w) {g : Nat} (hc : Chg (fun k => k = g) w w') (hg : w0.heap.size < g) : DB w0 p ia ic da dc w' := by
  refine ⟨?_, h.bel.trans (hc.below h.bel.size (fun k e => by omega))⟩
  rw [hc.block _ (rlt_of_heapP h.box) (by omega)]; exact h.box
def RelEn (w0 : World) (p : PP) (ia : Option Addr) (ic : Nat) (da : Option Addr) (dc : Nat) (g : Nat) (hd : List UInt8) (o i : Value) (wr : World) : Prop :=
  ∃ j : Nat, j ≤ p.items.length ∧ i = .int .i64 j ∧ o = .slice (some ⟨g, 0, none⟩) (15 + (itemsB p.kind (p.items.take j)).length) 512 ∧ EB wr g (hd ++ itemsB p.kind (p.items.take j)) ∧ DB w0 p ia ic da dc wr

theorem relEn_next {w0 : World} {p : PP} {ia : Option Addr} {ic : Nat} {da : Option Addr} {dc : Nat} {g : Nat} {hd : List UInt8} {j : Nat} {x : PI} (hx : p.items[j]? = some x) {wr : World} (hD : DB w0 p ia ic da dc wr) {bs : List UInt8} (hE : EB wr g bs) (hb : bs = hd ++ itemsB p.kind (p.items.take j) ++ itemB p.kind x) {m : Nat} (hm : m = 15 + (itemsB p.kind (p.items.take j)).length + (itemB p.kind x).length) {i : Value} (hi : i = .int .i64 ((j + 1 : Nat) : Int)) :
    RelEn w0 p ia ic da dc g hd (.slice (some ⟨g, 0, none⟩) m 512) i wr := by
  subst hb
  subst hi
  refine ⟨j + 1, (List.getElem?_eq_some_iff.1 hx).1, rfl, ?_, ?_, hD⟩
  · rw [itemsB_snoc hx, List.length_append, hm, Nat.add_assoc]
  · rw [itemsB_snoc hx, ← List.append_assoc]; exact hE
theorem take_right {kind : Int} {xs : List PI} (h : ∀ (i : Nat) (x : PI), xs[i]? = some x → RightI kind x) (j : Nat) : (itemsB kind (xs.take j)).length ≤ 59 * j := by
  have h1 := itemsB_length (kind := kind) (xs := xs.take j) fun i x hi => by
    rw [List.getElem?_take] at hi
    split at hi
    · exact h i x hi
    · cases hi
  have h2 : (xs.take j).length ≤ j := by rw [List.length_take]; omega
  exact Nat.le_trans h1 (Nat.mul_le_mul_left _ h2)
theorem item_small {key value cur : List UInt8} {child : Int} {sz : Nat} {kb : UInt8} (hk : leb 1 key.length = [kb]) (hs : (sz : Int) ≤ 32) : cur ++ [kb] ++ key ++ leb 2 sz ++ value = cur ++ itemB 1 ⟨key, value, child, sz⟩ := by
  unfold itemB
  simp only
  rw [if_pos trivial, if_pos ⟨trivial, hs⟩, hk]; simp
theorem item_great {key value cur : List UInt8} {cn sz : Nat} {kb : UInt8} (hk : leb 1 key.length = [kb]) (hs : ¬ (sz : Int) ≤ 32) : cur ++ [kb] ++ key ++ leb 2 sz ++ leb 4 cn = cur ++ itemB 1 ⟨key, value, cn, sz⟩ := by
  unfold itemB
  simp only
  rw [if_pos trivial, if_neg (fun g => hs g.2), hk]; simp
theorem item_index {key value cur : List UInt8} {cn : Nat} {sz : Int} {kb : UInt8} (hk : leb 1 key.length = [kb]) : cur ++ [kb] ++ key ++ leb 4 cn = cur ++ itemB 2 ⟨key, value, cn, sz⟩ := by
  unfold itemB
  simp only
  rw [if_neg (by decide), if_neg (fun g => absurd g.1 (by decide)), hk]; simp
theorem meas_succ {n j : Nat} (h : j < n) : n - (intOf (.int .i64 ((j : Int) + 1))).toNat < n - (intOf (.int .i64 (j : Int))).toNat := by simp only [intOf]; omega
theorem len_of {a b : List UInt8} {cur : List UInt8} {m L k : Nat} (h : a = cur ++ b) (hm : 15 + L = m) (hc : cur.length = m) (ha : a.length = k) : k = 15 + L + b.length := by
  subst h; rw [List.length_append] at ha; omega
theorem Sl.news {B : Nat} {w : World} {a : Option Addr} {c : Nat} {bs : List UInt8} (h : Sl B w a c bs) : News w a c bs.length (cellsB bs) := h.1.news h.2.2.2
end Go.Proofs.Ytkjgncmbhkhbnaa

/- Chapter 2's look: two readers side by side; the walk of bytes. -/
import Derived.Test.YtofialinjbjcmaaDuoEnd
import Derived.Test.YtofialinjbjcmaaRq2
import Derived.Test.YtofialinjbjcmaaRdEnd
namespace Go.Proofs.Ytofialinjbjcmaa
open Go.RowKit
set_option linter.unusedVariables false

def PR (s : RS) (p : Nat) (b : Option Nat) (w : World) : Prop := ∃ a cap, blk a = b ∧ IsR w p a cap s
theorem PR.stable (s : RS) : Stable (PR s) := fun F p b w w' h hc h1 h2 => by
  obtain ⟨a, cap, e, h⟩ := h
  exact ⟨a, cap, e, h.chg hc h1 fun k hk => h2 k (by rw [← e]; exact hk)⟩
def PQ (s : RS) (r : Nat) (b : Option Nat) (w : World) : Prop := ∃ oq, blk oq = b ∧ IsQ w r oq s
theorem PQ.stable (s : RS) : Stable (PQ s) := fun F p b w w' h hc h1 h2 => by
  obtain ⟨oq, e, h⟩ := h
  exact ⟨oq, e, h.chg hc h1 fun k hk => h2 k (by rw [← e]; exact hk)⟩
theorem IsDuo.atR {s sr : RS} {lv : Prop} {B x : Nat} {w : World} {d : Duo} (h : IsDuo (PR s) (PQ sr) lv B w x d) (hB : B ≤ w.heap.size) :
    ∃ a cap, IsR w d.p a cap s ∧ (∀ k, blk a = some k → Own d x k) ∧ ∀ s' w', Aft w d.p a s' w' → IsDuo (PR s') (PQ sr) lv B w' x d ∧ Step w d w' d x := by
  obtain ⟨a, cap, e, hR⟩ := h.2.1
  refine ⟨a, cap, hR, fun k hk => Duo.mem_b1 (by rw [← e]; exact hk), fun s' w' h' => ?_⟩
  obtain ⟨a', cap', h1, h2, h3⟩ := h'
  have h4 := h.step1 (PQ.stable sr) (P1' := PR s') (b1' := d.b1) ⟨a', cap', h2.trans e, h1⟩ (h3.mono fun k _ hk => .inl hk) (.inl rfl) (fun k hk => h1.2.2.2.2.2.2.2 k (by rw [h2, e]; exact hk)) hB
  exact h4
theorem IsDuo.atQ {s sr : RS} {lv : Prop} {B x : Nat} {w : World} {d : Duo} (h : IsDuo (PR s) (PQ sr) lv B w x d) (hB : B ≤ w.heap.size) :
    ∃ oq, IsQ w d.r oq sr ∧ (∀ k, blk oq = some k → Own d x k) ∧ ∀ s' w', AftQ w d.r oq s' w' → IsDuo (PR s) (PQ s') lv B w' x d ∧ Step w d w' d x := by
  obtain ⟨oq, e, hQ⟩ := h.2.2.1
  refine ⟨oq, hQ, fun k hk => Duo.mem_b2 (by rw [← e]; exact hk), fun s' w' h' => ?_⟩
  have h4 := h.step2 (PR.stable s) (P2' := PQ s') (b2' := d.b2) ⟨oq, e, h'.1⟩ (h'.2.mono fun k _ hk => .inl hk) (.inl rfl) (fun k hk => h'.1.lt_list k (by rw [e]; exact hk)) hB
  exact h4
theorem Step.drewL {w w' : World} {d d' : Duo} {x : Nat} (h : Step w.drew d w' d' x) : Step w d w' d' x := ⟨⟨h.1.os, h.1.tape, h.1.output, h.1.size, h.1.block⟩, h.2⟩
theorem Step.drewNL {w w' : World} {d d' : Duo} {x n : Nat} (h : Step (w.drewN n) d w' d' x) : Step w d w' d' x := ⟨⟨h.1.os, h.1.tape, h.1.output, h.1.size, h.1.block⟩, h.2⟩

/-- what look's bytes leaves -/
def Telled (P1 P2 : Nat → Option Nat → World → Prop) (lv : Prop) (B : Nat) (w : World) (x : Nat) (d : Duo) (og : Option Addr) (y : Ending) (w' : World) : Prop :=
  y = .returned (.bool true) ∧ ∃ d' : Duo, IsDuo P1 P2 lv B w' x d' ∧ d'.p = d.p ∧ d'.r = d.r ∧ Chg (Own d x) w w' ∧ (∀ b, Own d' x b → Own d x b ∨ w.heap.size ≤ b ∨ blk og = some b) ∧ d'.es.length = d.es.length + 1

set_option maxHeartbeats 2000000 in
theorem bytes_any (P1 P2 : Nat → Option Nat → World → Prop) (s1 : Stable P1) (s2 : Stable P2) (lv : Prop) (B x : Nat) (d : Duo) (bs : List UInt8) (hl : bs.length ≤ 140737488351232) (og ow : Option Addr) (cg cw : Nat) (w : World) (hI : IsDuo P1 P2 lv B w x d) (hB : B ≤ w.heap.size) (hn : d.es.length ≤ 1000000) (hO : OB w og cg bs) (hw : Bts w ow bs) (hf : ∀ b, blk og = some b → B ≤ b ∧ ¬ Own d x b) :
    Calls Try.prog 51 #[.pointer (some ⟨x, 0, none⟩), .slice og bs.length cg, .slice ow bs.length cw] w (Telled P1 P2 lv B w x d og) := by
  have HE := eqBytes_any bs bs og ow cg cw (by omega) (by omega) w hO.bts hw
  obtain ⟨n, hbn⟩ : ∃ n, bs.length = n := ⟨_, rfl⟩
  have HI := Lib.hid hI
  have HO : Hid (OR eB w og cg n (cellsB bs)) := Lib.hid (by rw [← hbn]; exact hO)
  rw [hbn] at HE hl ⊢
  have HE := Lib.hid HE
  have Hf := Lib.hid hf
  clear hI hO hw hbn hf
  go_enter Try.func51, Try.ntmps51
  go_wp2_with fail
  refine HE.out.mono ?_
  rintro _ w5 ⟨rfl, hB5⟩
  rw [show decide (bs = bs) = true by simp]
  have HB5 := Lib.hid hB5
  have hI5 := HI.out.below s1 s2 hB5
  have HO5 := Lib.hid (HO.out.chg (F := fun _ => False) (Chg.of_below hB5) fun _ _ f => f)
  obtain ⟨x0, x1, x2, xf⟩ := hI5.cells
  have xf2 := xf 2
  have hO' := hI5.2.2.2.1.chg ((Chg.refl (fun _ => False) w5).alloc (.cells #[(⟨og, cg, n⟩ : Lst).val] 34)) fun _ _ f => f
  have hlx : x < w5.heap.size := (hI5.lt Duo.mem_x).2
  have nx : ¬ blk d.ta = some x := fun e => absurd (hI5.sep 0 5 x rfl (by rw [← e]; rfl)) (by decide)
  have HI5 := Lib.hid hI5
  simp only [Lst.val] at hO'
  clear hI5 hB5 xf x0 x1
  go_wp2_with (at_builtin; refine wpList_append_two ApB.eLB rfl (.tmp 15) (.tmp 17) rfl rfl hO' rfl rfl (cell_new _ _ _) (fun u hu => by simp at hu; subst hu; rfl) (by show _ * 24 ≤ _; omega) (by omega) ?_
               intro ta2 cap2 w6 hO6 hC6 hb6
               have g2 := (hC6.cell (p := ⟨x, 2, none⟩) (Nat.lt_of_lt_of_le hlx (by simp)) nx).trans ((((Chg.refl (fun _ => False) w5).alloc _).cell (p := ⟨x, 2, none⟩) hlx fun f => f).trans x2)
               have f2 := (hC6.frozen (p := ⟨x, 2, none⟩) (Nat.lt_of_lt_of_le hlx (by simp)) nx).trans ((((Chg.refl (fun _ => False) w5).alloc _).frozen (p := ⟨x, 2, none⟩) hlx fun f => f).trans xf2))
  have HC := Lib.hid (show Telled P1 P2 lv B w x d og (.returned (.bool true)) (w6.setCell ⟨x, 2, none⟩ (.slice ta2 (d.es.length + 1) cap2)) from by
    have h := HI5.out.tell s1 s2 (e := ⟨og, cg, n⟩) (Nat.le_trans hB HB5.out.size) hl (fun _ => ⟨_, HO5.out⟩) (fun b hb => ⟨(Hf.out b hb).1, HO5.out.lt b hb, (Hf.out b hb).2⟩) ((Below.refl w5.heap.size w5).alloc (Nat.le_refl _) _) hO6 hC6 (hb6.imp id (·.1))
    refine ⟨rfl, _, h.1, rfl, rfl, (Chg.of_below HB5.out).trans h.2.1 fun b hb ho => ho, fun b hb => ?_, by simp⟩
    rcases h.2.2 b hb with h1 | h1 | h1
    · exact .inl h1
    · exact .inr (.inl (Nat.le_trans HB5.out.size h1))
    · exact .inr (.inr h1))
  clear hO6 hC6 hb6 hO' x2 xf2
  go_wp2_with fail
  go_ret
  exact HC.out
end Go.Proofs.Ytofialinjbjcmaa

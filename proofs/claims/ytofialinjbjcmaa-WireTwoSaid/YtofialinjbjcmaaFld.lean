/- The fields of WireBack: what they are in memory, how many bytes they have; the walks of isShort, size, Long, all. -/
import Derived.Test.YtofialinjbjcmaaOps2
import Derived.Test.YtofialinjbjcmaaWrOps
import Derived.Test.YtofialinjbjcmaaRdEnd
namespace Go.Proofs.Ytofialinjbjcmaa
open Go.RowKit
set_option linter.unusedVariables false

theorem Below.of_chg {F : Nat → Prop} {a b : World} {B : Nat} (h : Chg F a b) (hB : B ≤ a.heap.size) (hF : ∀ k, F k → B ≤ k) : Below B a b := h.below hB hF

/-- a call that lies in a list; its bytes lie below B -/
def OpAt (B : Nat) (w : World) (b off : Nat) (o : Op2) : Prop := o.fits ∧ o.lies w b off ∧ Bts w o.a o.bs ∧ (o.bs = [] ∨ ∀ k, blk o.a = some k → k < B)
/-- a list of calls, below B -/
def OpsAt (B : Nat) (w : World) (a : Option Addr) (os : List Op2) : Prop := os = [] ∨ ∃ b off, a = some ⟨b, off, none⟩ ∧ b < B ∧ ∀ i o, os[i]? = some o → OpAt B w b (off + i * 4) o

theorem OpAt.below {B b off : Nat} {w w' : World} {o : Op2} (h : OpAt B w b off o) (hb : b < B) (hc : Below B w w') : OpAt B w' b off o := by
  obtain ⟨h1, ⟨l1, l2, l3, l4⟩, h3, h4⟩ := h
  have e : ∀ k, w'.cell? ⟨b, k, none⟩ = w.cell? ⟨b, k, none⟩ := fun k => hc.cell (p := ⟨b, k, none⟩) hb
  refine ⟨h1, ⟨(e _).trans l1, (e _).trans l2, (e _).trans l3, (e _).trans l4⟩, ?_, h4⟩
  rcases h3 with h3 | ⟨b2, o2, e2, h5, h6⟩
  · exact .inl h3
  · by_cases hn : o.bs = []
    · exact .inl hn
    · have hlt : b2 < B := (h4.resolve_left hn) b2 (by rw [e2]; rfl)
      exact .inr ⟨b2, o2, e2, Nat.lt_of_lt_of_le h5 hc.size, fun i hi => (hc.cell (p := ⟨b2, o2 + i, none⟩) hlt).trans (h6 i hi)⟩
theorem OpsAt.below {B : Nat} {w w' : World} {a : Option Addr} {os : List Op2} (h : OpsAt B w a os) (hc : Below B w w') : OpsAt B w' a os := by
  rcases h with h | ⟨b, off, h1, h2, h3⟩
  · exact .inl h
  · exact .inr ⟨b, off, h1, h2, fun i o hi => (h3 i o hi).below h2 hc⟩
theorem OpsAt.at {B : Nat} {w : World} {a : Option Addr} {os : List Op2} (h : OpsAt B w a os) {i : Nat} {o : Op2} (hi : os[i]? = some o) : ∃ b off, a = some ⟨b, off, none⟩ ∧ b < B ∧ OpAt B w b (off + i * 4) o := by
  rcases h with rfl | ⟨b, off, h1, h2, h3⟩
  · simp at hi
  · exact ⟨b, off, h1, h2, h3 i o hi⟩
theorem OpsAt.fits {B : Nat} {w : World} {a : Option Addr} {os : List Op2} (h : OpsAt B w a os) : ∀ o ∈ os, o.fits := by
  intro o ho
  obtain ⟨i, hi⟩ := List.getElem?_of_mem ho
  obtain ⟨_, _, _, _, h1, _⟩ := h.at hi
  exact h1
theorem OpsAt.take {B : Nat} {w : World} {a : Option Addr} {os : List Op2} (h : OpsAt B w a os) (n : Nat) : OpsAt B w a (os.take n) := by
  rcases h with rfl | ⟨b, off, h1, h2, h3⟩
  · exact .inl (by simp)
  · refine .inr ⟨b, off, h1, h2, fun i o hi => h3 i o ?_⟩
    rw [List.getElem?_take] at hi
    by_cases h : i < n
    · rwa [if_pos h] at hi
    · rw [if_neg h] at hi; cases hi
theorem IsOps.list {w : World} {a : Option Addr} {len : Nat} (h : IsOps w a len) : ∃ os : List Op2, os.length = len ∧ OpsAt w.heap.size w a os := by
  rcases h with rfl | ⟨b, off, h1, h2, h3⟩
  · exact ⟨[], rfl, .inl rfl⟩
  · refine ⟨List.ofFn fun i : Fin len => Classical.choose (h3 i i.2), by simp, .inr ⟨b, off, h1, h2, fun i o hi => ?_⟩⟩
    rw [List.getElem?_ofFn] at hi
    by_cases hl : i < len
    · rw [dif_pos hl] at hi
      cases hi
      obtain ⟨g1, g2, g3⟩ := Classical.choose_spec (h3 i hl)
      refine ⟨g1, g2, g3, ?_⟩
      rcases g3 with g3 | ⟨b2, o2, e, g4, _⟩
      · exact .inl g3
      · exact .inr fun k hk => by rw [e] at hk; cases hk; exact g4
    · rw [dif_neg hl] at hi; cases hi

/-- is a field written by Short? -/
def Op2.sh (o : Op2) : Bool := !(o.kind == 0 || o.kind == 1 || o.kind == 2 || o.kind == 4 || o.kind == 8)
/-- a field's bytes -/
def Op2.enc (o : Op2) : List UInt8 := if o.kind = 1 then leb 1 o.n else if o.kind = 2 then leb 2 o.n else if o.kind = 4 then leb 4 o.n else if o.kind = 8 then leb 8 o.n else if o.kind = 0 then o.bs else UInt8.ofNat o.bs.length :: o.bs
def Op2.size (o : Op2) : Nat := o.enc.length
def encs (os : List Op2) : List UInt8 := os.flatMap (·.enc)
theorem encs_snoc {os : List Op2} {k : Nat} {o : Op2} (h : os[k]? = some o) : encs (os.take (k + 1)) = encs (os.take k) ++ o.enc := by
  have hk := (List.getElem?_eq_some_iff.1 h).1
  have e : os[k] = o := (List.getElem?_eq_some_iff.1 h).2
  rw [List.take_succ_eq_append_getElem hk, e]
  simp [encs]
theorem encs_split {os : List Op2} {k : Nat} {o : Op2} (h : os[k]? = some o) : encs (os.drop k) = o.enc ++ encs (os.drop (k + 1)) := by
  have hk := (List.getElem?_eq_some_iff.1 h).1
  have e : os[k] = o := (List.getElem?_eq_some_iff.1 h).2
  rw [List.drop_eq_getElem_cons hk, e]
  simp [encs]
theorem encs_cut (os : List Op2) (k : Nat) : encs (os.take k) ++ encs (os.drop k) = encs os := by
  rw [encs, encs, encs, ← List.flatMap_append, List.take_append_drop]
theorem encs_le (os : List Op2) (k : Nat) : (encs (os.take k)).length ≤ (encs os).length := by
  rw [← encs_cut os k, List.length_append]; omega
theorem leb_mod (k n : Nat) : leb k (n % 256 ^ k) = leb k n := by
  apply List.ext_getElem?
  intro j
  by_cases h : j < k
  · rw [leb_get _ _ _ h, leb_get _ _ _ h]
    congr 2
    have e : 256 ^ k = 256 ^ j * 256 ^ (k - j) := by rw [← Nat.pow_add]; congr 1; omega
    rw [e, Nat.mod_mul_right_div_self]
    have e2 : 256 ^ (k - j) = 256 * 256 ^ (k - j - 1) := by rw [← Nat.pow_succ']; congr 1; omega
    rw [e2, Nat.mod_mul_right_mod]
  · rw [List.getElem?_eq_none (by rw [leb_length]; omega), List.getElem?_eq_none (by rw [leb_length]; omega)]

/-- the box of a call that is handed over -/
def Op2.box (o : Op2) : Obj := .cells #[.int .i64 o.kind, .int .u64 o.n, .slice o.a o.bs.length o.cap, .int .i64 o.k] 36
theorem cells4 {w : World} {p : Nat} {v0 v1 v2 v3 : Value} {T : TypeId} (h : w.heap[p]? = some (.cells #[v0, v1, v2, v3] T)) :
    w.cell? ⟨p, 0, none⟩ = some v0 ∧ w.cell? ⟨p, 1, none⟩ = some v1 ∧ w.cell? ⟨p, 2, none⟩ = some v2 ∧ w.cell? ⟨p, 3, none⟩ = some v3 := by
  simp [World.cell?, h]
theorem Op2.boxed (o : Op2) (w : World) : (w.alloc o.box).cell? ⟨w.heap.size, 0, none⟩ = some (.int .i64 o.kind) ∧ (w.alloc o.box).cell? ⟨w.heap.size, 1, none⟩ = some (.int .u64 o.n) ∧ (w.alloc o.box).cell? ⟨w.heap.size, 2, none⟩ = some (.slice o.a o.bs.length o.cap) ∧ (w.alloc o.box).cell? ⟨w.heap.size, 3, none⟩ = some (.int .i64 o.k) := by
  exact cells4 (heap_alloc_new w o.box)
theorem Op2.box_below (o : Op2) (w : World) : Below w.heap.size w (w.alloc o.box) := (Below.refl _ _).alloc (Nat.le_refl _) _

theorem beq_no {x y : Int} (h : x ≠ y) : (x == y) = false := beq_eq_false_iff_ne.2 h

set_option maxHeartbeats 400000 in
theorem isShort_any (o : Op2) (w : World) :
    Calls Try.prog 20 #[o.val] w fun x w' => x = .returned (.bool o.sh) ∧ Below w.heap.size w w' := by
  have hB := Lib.hid (o.box_below w)
  obtain ⟨kind, k, n, a, cap, bs⟩ := o
  simp only [Op2.val, Op2.sh, Op2.box] at *
  by_cases k0 : kind = 0
  · subst k0
    go_enter Try.func20, Try.ntmps20
    go_wp2_with fail
    go_ret
    exact ⟨rfl, hB.out⟩
  by_cases k1 : kind = 1
  · subst k1
    go_enter Try.func20, Try.ntmps20
    go_wp2_with fail
    go_ret
    exact ⟨rfl, hB.out⟩
  by_cases k2 : kind = 2
  · subst k2
    go_enter Try.func20, Try.ntmps20
    go_wp2_with fail
    go_ret
    exact ⟨rfl, hB.out⟩
  by_cases k4 : kind = 4
  · subst k4
    go_enter Try.func20, Try.ntmps20
    go_wp2_with fail
    go_ret
    exact ⟨rfl, hB.out⟩
  by_cases k8 : kind = 8
  · subst k8
    go_enter Try.func20, Try.ntmps20
    go_wp2_with fail
    go_ret
    exact ⟨rfl, hB.out⟩
  have e0 := beq_no k0
  have e1 := beq_no k1
  have e2 := beq_no k2
  have e4 := beq_no k4
  have e8 := beq_no k8
  clear k0 k1 k2 k4 k8
  rw [e0, e1, e2, e4, e8]
  go_enter Try.func20, Try.ntmps20
  go_wp2_with fail
  go_ret
  exact ⟨rfl, hB.out⟩

set_option maxHeartbeats 800000 in
theorem size_any (o : Op2) (hl : o.bs.length ≤ 140737488351232) (w : World) :
    Calls Try.prog 21 #[o.val] w fun x w' => x = .returned (.int .i64 (o.size : Nat)) ∧ Below w.heap.size w w' := by
  have hB := Lib.hid (o.box_below w)
  obtain ⟨kind, k, n, a, cap, bs⟩ := o
  simp only [Op2.val, Op2.size, Op2.box] at *
  by_cases k1 : kind = 1
  · subst k1
    have HS := Lib.hid (show (Op2.enc ⟨1, k, n, a, cap, bs⟩).length = 1 by simp [Op2.enc, leb_length])
    go_enter Try.func21, Try.ntmps21
    go_wp2_with fail
    go_ret
    exact ⟨by rw [HS.out]; rfl, hB.out⟩
  by_cases k2 : kind = 2
  · subst k2
    have HS := Lib.hid (show (Op2.enc ⟨2, k, n, a, cap, bs⟩).length = 2 by simp [Op2.enc, leb_length])
    go_enter Try.func21, Try.ntmps21
    go_wp2_with fail
    go_ret
    exact ⟨by rw [HS.out]; rfl, hB.out⟩
  by_cases k4 : kind = 4
  · subst k4
    have HS := Lib.hid (show (Op2.enc ⟨4, k, n, a, cap, bs⟩).length = 4 by simp [Op2.enc, leb_length])
    go_enter Try.func21, Try.ntmps21
    go_wp2_with fail
    go_ret
    exact ⟨by rw [HS.out]; rfl, hB.out⟩
  by_cases k8 : kind = 8
  · subst k8
    have HS := Lib.hid (show (Op2.enc ⟨8, k, n, a, cap, bs⟩).length = 8 by simp [Op2.enc, leb_length])
    go_enter Try.func21, Try.ntmps21
    go_wp2_with fail
    go_ret
    exact ⟨by rw [HS.out]; rfl, hB.out⟩
  by_cases k0 : kind = 0
  · subst k0
    have HS := Lib.hid (show (Op2.enc ⟨0, k, n, a, cap, bs⟩).length = bs.length by simp [Op2.enc])
    clear k1 k2 k4 k8
    go_enter Try.func21, Try.ntmps21
    go_wp2_with fail
    go_ret
    exact ⟨by rw [HS.out]; rfl, hB.out⟩
  have HS := Lib.hid (show (Op2.enc ⟨kind, k, n, a, cap, bs⟩).length = bs.length + 1 by simp [Op2.enc, k0, k1, k2, k4, k8])
  have e0 := beq_no k0
  have e1 := beq_no k1
  have e2 := beq_no k2
  have e4 := beq_no k4
  have e8 := beq_no k8
  clear k0 k1 k2 k4 k8
  go_enter Try.func21, Try.ntmps21
  go_wp2_with fail
  go_ret
  exact ⟨by rw [HS.out]; rfl, hB.out⟩

theorem long_any (n : Int) (w : World) :
    Calls Try.prog 22 #[.int .i64 n] w fun x w' => x = .returned (.bool (decide (1048576 < n))) ∧ w = w' := by
  go_enter Try.func22, Try.ntmps22
  go_wp2_with fail
  go_ret
  exact ⟨rfl, rfl⟩
end Go.Proofs.Ytofialinjbjcmaa

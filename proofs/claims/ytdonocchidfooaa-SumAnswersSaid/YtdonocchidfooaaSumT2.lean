/- The walk of turn.twice. -/
import Derived.Test.YtdonocchidfooaaSumT
import Derived.Deep.RegionHeld3
import Derived.Laws.CopyOwn
namespace Go.Proofs.Ytdonocchidfooaa
open Go.RowKit

/-- a block that is an array of numbers of 32 bits, with which 'cell k' is written -/
theorem setCell_rowOf {w : World} {g : Nat} {l : List Nat} {t : TypeId} (h : w.heap[g]? = some (.cells (rowOf l) t)) (k v : Nat) : (w.setCell ⟨g, k, none⟩ (.int .u32 (v : Int))).heap[g]? = some (.cells (rowOf (l.set k v)) t) := by
  rw [setCell_eq_setRow w g k (rowOf l) t (0, 0) _ h, setRow_heap w g _ _ t (0, 0) h]
  congr 2
  simp [rowOf]
theorem range_rowOf {w : World} {g : Nat} {l : List Nat} {t : TypeId} (h : w.heap[g]? = some (.cells (rowOf l) t)) : w.rangeAt g 0 (l.map fun n : Nat => Value.int .u32 (n : Int)) := by
  intro j v hv
  rw [Nat.zero_add, cell_of_row w g j _ t _ h]
  simpa [rowOf] using hv
theorem free_rowOf {w : World} {g : Nat} {l : List Nat} {t : TypeId} (h : w.heap[g]? = some (.cells (rowOf l) t)) (k : Nat) : w.frozen? ⟨g, k, none⟩ = false := by simp [World.frozen?, h]

theorem three_rows (w : World) (a b c : Obj) : (((w.alloc a).alloc b).alloc c).heap[w.heap.size]? = some a ∧ (((w.alloc a).alloc b).alloc c).heap[w.heap.size + 1]? = some b ∧ (((w.alloc a).alloc b).alloc c).heap[w.heap.size + 1 + 1]? = some c ∧ Below w.heap.size w (((w.alloc a).alloc b).alloc c) ∧ (((w.alloc a).alloc b).alloc c).heap.size = w.heap.size + 3 := by
  have s1 : (w.alloc a).heap.size = w.heap.size + 1 := by simp
  have s2 : ((w.alloc a).alloc b).heap.size = w.heap.size + 1 + 1 := by simp
  refine ⟨?_, ?_, ?_, ?_, ?_⟩
  · rw [Below.heap_alloc _ _ _ (by omega), Below.heap_alloc _ _ _ (by omega), heap_alloc_new]
  · rw [Below.heap_alloc _ _ _ (by omega)]
    have := heap_alloc_new (w.alloc a) b
    rwa [s1] at this
  · have := heap_alloc_new ((w.alloc a).alloc b) c
    rwa [s2] at this
  · exact (((Below.refl _ _).alloc (Nat.le_refl _) _).alloc (by omega) _).alloc (by omega) _
  · simp

/-- what a region that loads out of one array and writes place k of another knows of the memory -/
def Tw (w : World) (B : Nat) (m z old : List Nat) (k : Nat) (t : TypeId) (w' : World) : Prop :=
  w'.heap[B]? = some (.cells (rowOf m) t) ∧ w'.heap[B + 1]? = some (.cells (rowOf z) t) ∧ (∃ C : List Nat, C.length = 32 ∧ (∀ j, j < k → C[j]? = old[j]?) ∧ w'.heap[B + 1 + 1]? = some (.cells (rowOf C) t)) ∧ Below B w w' ∧ B + 3 ≤ w'.heap.size
theorem Tw.below {w : World} {B k : Nat} {m z old : List Nat} {t : TypeId} {w' w1 : World} (h : Tw w B m z old k t w') (hb1 : Below w'.heap.size w' w1) : Tw w B m z old k t w1 := by
  obtain ⟨h1, h2, ⟨C, hC1, hC2, hC3⟩, h4, h5⟩ := h
  exact ⟨(hb1.block B (by omega)).trans h1, (hb1.block (B + 1) (by omega)).trans h2, ⟨C, hC1, hC2, (hb1.block (B + 1 + 1) (by omega)).trans hC3⟩, h4.trans (hb1.mono (by omega)), Nat.le_trans h5 hb1.size⟩
theorem Tw.set {w : World} {B k : Nat} {m z old : List Nat} {t : TypeId} {w' : World} (h : Tw w B m z old k t w') (v : Nat) : Tw w B m z old k t (w'.setCell ⟨B + 1 + 1, k, none⟩ (.int .u32 (v : Int))) := by
  obtain ⟨h1, h2, ⟨C, hC1, hC2, hC3⟩, h4, h5⟩ := h
  refine ⟨?_, ?_, ⟨C.set k v, by simpa using hC1, fun j hj => ?_, setCell_rowOf hC3 k v⟩, h4.setCell (by show B ≤ B + 1 + 1; omega) _, by simpa [World.setCell] using h5⟩
  · rw [Below.heap_setCell _ _ _ _ (by show B ≠ B + 1 + 1; omega)]; exact h1
  · rw [Below.heap_setCell _ _ _ _ (by show B + 1 ≠ B + 1 + 1; omega)]; exact h2
  · rw [List.getElem?_set_ne (by omega)]; exact hC2 j hj
theorem Tw.drew {w : World} {B k : Nat} {m z old : List Nat} {t : TypeId} {w' : World} (h : Tw w B m z old k t w') : Tw w B m z old k t w'.drew := h.below (Below.refl _ _).drew
theorem Tw.reads {w : World} {B k : Nat} {m z old : List Nat} {t : TypeId} {w' : World} (h : Tw w B m z old k t w') {mk : Nat} (hk : m[k]? = some mk) :
    w'.rangeAt B 0 (m.map fun n : Nat => Value.int .u32 (n : Int)) ∧ w'.cell? ⟨B, k, none⟩ = some (.int .u32 (mk : Int)) ∧ Tw w B m z old k t w' := ⟨range_rowOf h.1, cell_rowOf h.1 hk, h⟩

/-- the turn done two times -/
def twc (m : List Nat) : List Nat := (List.range 32).map fun i => Crc.tur (at0 m) 32 (at0 m i)

set_option maxHeartbeats 400000 in
theorem turnTwice_any (m : List Nat) (hm : m.length = 32) (hml : ∀ n ∈ m, n < 4294967296) (w : World) : Calls Try.prog 36 #[.agg (rowOf m)] w fun e w' => e = .returned (.agg (rowOf (twc m))) ∧ Below w.heap.size w w' := by
  have hbox := fun w => run_box_row 52 m w
  go_enter Try.func36, Try.ntmps36
  go_wp2
  clear hbox
  go_loopw [5] (fun i wr => ∃ k : Nat, k ≤ 32 ∧ i = .int .i64 k ∧ ∃ cur : List Nat, cur.length = 32 ∧ (∀ j, j < k → cur[j]? = some (Crc.tur (at0 m) 32 (at0 m j))) ∧
    wr.heap[w.heap.size]? = some (.cells (rowOf m) 52) ∧ wr.heap[w.heap.size + 1]? = some (.cells (rowOf (List.replicate 32 0)) 52) ∧ wr.heap[w.heap.size + 1 + 1]? = some (.cells (rowOf cur) 52) ∧ Below w.heap.size w wr ∧ w.heap.size + 3 ≤ wr.heap.size) (fun i _ => 32 - (intOf i).toNat)
  case atStart =>
    obtain ⟨h1, h2, h3, h4, h5⟩ := three_rows w (.cells (rowOf m) 52) (.cells (rowOf (List.replicate 32 0)) 52) (.cells (rowOf (List.replicate 32 0)) 52)
    exact ⟨0, Nat.zero_le _, rfl, _, rfl, fun j hj => absurd hj (by omega), h1, h2, h3, h4, Nat.le_of_eq h5.symm⟩
  case round =>
    obtain ⟨k, hk, rfl, cur, hcl, hcur, g1, g2, g3, hb, hz⟩ := hrel
    by_cases hlt : k < 32
    · have hgt : m[k]? = some (at0 m k) := at0_get (by omega)
      have hmk : at0 m k < 4294967296 := at0_lt hml k
      have hT : Tw w w.heap.size m (List.replicate 32 0) cur k 52 wr := ⟨g1, g2, ⟨cur, hcl, fun _ _ => rfl, g3⟩, hb, hz⟩
      generalize hmm : at0 m k = mk at hmk hgt
      have Hmm := Lib.hid hmm
      clear hmm
      have Hgt := Lib.hid hgt
      obtain ⟨hr1, c1, _⟩ := hT.reads hgt
      clear hgt g1 g2 g3 hb hz
      have hu := Try.underlying52
      have hi : (Try.prog.info? 52).map (·.size) = some (m.map fun n : Nat => Value.int .u32 (n : Int)).length := by rw [List.length_map, hm]; exact row52
      go_wp2
      go_region_held3 (fun w' => w'.rangeAt w.heap.size 0 (m.map fun n : Nat => Value.int .u32 (n : Int)) ∧ w'.cell? ⟨w.heap.size, k, none⟩ = some (.int .u32 (mk : Int)) ∧ Tw w w.heap.size m (List.replicate 32 0) cur k 52 w')
        (first
          | (refine ⟨?_, ?_, ?_⟩; exact hr1; exact c1; exact hT.drew)
          | (refine Tw.reads ?_ Hgt.out; with_reducible assumption)
          | (refine Tw.reads (Tw.set ?_ _) Hgt.out; with_reducible assumption))
        (first
          | (go_at_call 35; go_split_ands; refine (turnOf_any m hm hml mk hmk _).mono ?_; rintro e w1 ⟨rfl, hb1⟩
             have hT1 : Tw w w.heap.size m (List.replicate 32 0) cur k 52 w1 := Tw.below (by assumption) hb1
             obtain ⟨C, hC1, hC2, hC3⟩ := hT1.2.2.1
             have c3 := cell_rowOf hC3 (at0_get (m := C) (i := k) (by omega))
             have f3 := free_rowOf hC3 k))
      have hT2 := hT1.set (Crc.tur (at0 m) 32 mk)
      have H3 := Lib.hid (setCell_rowOf hC3 k (Crc.tur (at0 m) 32 mk))
      have HC2 := Lib.hid hC2
      clear hr1 c1 hT hT1 hu hi c3 f3 hC3 hC2
      go_wp2
      go_roundw
      case rel =>
        obtain ⟨t1, t2, _, t4, t5⟩ := hT2
        refine ⟨k + 1, by omega, by go_num, C.set k (Crc.tur (at0 m) 32 mk), by simpa using hC1, fun j hj => ?_, t1, t2, H3.out, t4, t5⟩
        by_cases e : j = k
        · subst e; rw [List.getElem?_set_self (by omega), Hmm.out]
        · rw [List.getElem?_set_ne (by omega), HC2.out j (by omega)]; exact hcur j (by omega)
      case measure => simp [intOf]; omega
    · obtain rfl : k = 32 := by omega
      have hcu : cur = twc m := by
        apply List.ext_getElem?
        intro j
        rcases Nat.lt_or_ge j 32 with h | h
        · rw [hcur j h]; simp [twc, List.getElem?_map, List.getElem?_range h]
        · rw [List.getElem?_eq_none (by omega), List.getElem?_eq_none (by simp [twc]; omega)]
      have hs : (Try.prog.info? 52).map (·.size) = some (rowOf cur).size := by rw [rowOf_size, hcl]; exact row52
      have hs2 : (Try.prog.info? 52).map (·.size) = some (rowOf (twc m)).size := by rw [← hcu]; exact hs
      have Hcu := Lib.hid hcu
      clear hcur hcu
      go_wp2_with (first
        | (refine wpList_load_row rfl 52 (.tmp 3) rfl (w.heap.size + 1 + 1) rfl 52 (rowOf cur) (0, 0) _ g3 Try.underlying52 rfl hs ?_)
        | (refine wpList_store_row rfl 52 (.tmp 2) (.tmp 16) rfl (w.heap.size + 1) (rowOf cur) rfl rfl 52 _ g2 hs ?_ (rowOf_one _) ?_; (rw [rowOf_size, rowOf_size, hcl]; rfl)))
      have hre : (wr.setRow (w.heap.size + 1) (rowOf cur)).heap[w.heap.size + 1]? = some (.cells (rowOf (twc m)) 52) := by
        rw [← Hcu.out]; exact setRow_heap wr _ _ _ _ _ g2
      refine bodyPost_ret (results_cell_row rfl _ _ (w.heap.size + 1) 52 (rowOf (twc m)) (0, 0) _ rfl hre Try.underlying52 rfl hs2) rfl ⟨rfl, ?_⟩
      exact below_setRow hb (by omega) _
end Go.Proofs.Ytdonocchidfooaa

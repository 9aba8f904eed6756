/- The walks of coppiceref01.Steps, Join, Zeros. -/
import Derived.Test.YtdonocchidfooaaRefT
import Derived.Test.YtdonocchidfooaaRefB
import Derived.Test.YtdonocchidfooaaSumS
namespace Go.Proofs.Ytdonocchidfooaa
open Go.RowKit

/-- what a region that loads out of one array and writes place k of another knows of the memory -/
def Tx (w : World) (B1 B2 : Nat) (m old : List Nat) (k : Nat) (t : TypeId) (w' : World) : Prop :=
  w'.heap[B1]? = some (.cells (rowOf m) t) ∧ (∃ C : List Nat, C.length = 32 ∧ (∀ j, j < k → C[j]? = old[j]?) ∧ w'.heap[B2]? = some (.cells (rowOf C) t)) ∧ Below w.heap.size w w' ∧ B1 < B2 ∧ B2 < w'.heap.size
theorem Tx.below {w : World} {B1 B2 k : Nat} {m old : List Nat} {t : TypeId} {w' w1 : World} (h : Tx w B1 B2 m old k t w') (hb1 : Below w'.heap.size w' w1) : Tx w B1 B2 m old k t w1 := by
  obtain ⟨h1, ⟨C, hC1, hC2, hC3⟩, h4, h5, h6⟩ := h
  exact ⟨(hb1.block B1 (by omega)).trans h1, ⟨C, hC1, hC2, (hb1.block B2 (by omega)).trans hC3⟩, h4.trans (hb1.mono h4.size), h5, Nat.lt_of_lt_of_le h6 hb1.size⟩
theorem Tx.set {w : World} {B2 k : Nat} {m old : List Nat} {t : TypeId} {w' : World} (h : Tx w w.heap.size B2 m old k t w') (v : Nat) : Tx w w.heap.size B2 m old k t (w'.setCell ⟨B2, k, none⟩ (.int .u32 (v : Int))) := by
  obtain ⟨h1, ⟨C, hC1, hC2, hC3⟩, h4, h5, h6⟩ := h
  refine ⟨?_, ⟨C.set k v, by simpa using hC1, fun j hj => ?_, setCell_rowOf hC3 k v⟩, h4.setCell (Nat.le_of_lt h5) _, h5, by simpa [World.setCell] using h6⟩
  · rw [Below.heap_setCell _ _ _ _ (by show w.heap.size ≠ B2; omega)]; exact h1
  · rw [List.getElem?_set_ne (by omega)]; exact hC2 j hj
theorem Tx.drew {w : World} {B1 B2 k : Nat} {m old : List Nat} {t : TypeId} {w' : World} (h : Tx w B1 B2 m old k t w') : Tx w B1 B2 m old k t w'.drew := h.below (Below.refl _ _).drew
theorem Tx.reads {w : World} {B1 B2 k : Nat} {m old : List Nat} {t : TypeId} {w' : World} (h : Tx w B1 B2 m old k t w') {mk : Nat} (hk : m[k]? = some mk) :
    w'.rangeAt B1 0 (m.map fun n : Nat => Value.int .u32 (n : Int)) ∧ w'.cell? ⟨B1, k, none⟩ = some (.int .u32 (mk : Int)) ∧ Tx w B1 B2 m old k t w' := ⟨range_rowOf h.1, cell_rowOf h.1 hk, h⟩

/-- the inner loop of Steps: the list is turned two times, place by place -/
def RelI (w : World) (B1 B2 : Nat) (m : List Nat) (i : Value) (wr : World) : Prop :=
  ∃ k : Nat, k ≤ 32 ∧ i = .int .i64 k ∧ ∃ cur : List Nat, cur.length = 32 ∧ (∀ j, j < k → cur[j]? = some (Crc.tur (at0 m) 32 (at0 m j))) ∧
    wr.heap[B1]? = some (.cells (rowOf m) 51) ∧ wr.heap[B2]? = some (.cells (rowOf cur) 51) ∧ Below w.heap.size w wr ∧ B2 < wr.heap.size

def RelR (x : Nat) (n : Int) (w : World) (v i : Value) (wr : World) : Prop :=
  ∃ (q a e : Nat) (m : List Nat), i = .int .i64 (if n < 0 then n else q) ∧ (n < 0 → q = 0) ∧ Fits q ∧ v = .int .u32 a ∧ a < 4294967296 ∧ Mat e m ∧ Crc.stps (e * q) a = Crc.stps (8 * n.toNat) x ∧
        wr.heap[w.heap.size]? = some (.cells (rowOf m) 51) ∧ Below w.heap.size w wr ∧ w.heap.size + 1 ≤ wr.heap.size

set_option maxHeartbeats 400000 in
theorem refSteps_any (x : Nat) (hx : x < 4294967296) (n : Int) (hn : n ≤ 9223372036854775807) (w : World) : Calls Try.prog 31 #[.int .u32 x, .int .i64 n] w fun e w' => e = .returned (.int .u32 (Crc.stps (8 * n.toNat) x)) ∧ Below w.heap.size w w' := by
  go_enter Try.func31, Try.ntmps31
  go_wp2_with fail
  go_loopw [6] (fun i wr => ∃ k : Nat, k ≤ 32 ∧ i = .int .i64 k ∧ ∃ cur : List Nat, cur.length = 32 ∧ (∀ j, j < k → cur[j]? = some (Crc.stps 8 (2 ^ j))) ∧
    wr.heap[w.heap.size]? = some (.cells (rowOf cur) 51) ∧ Below w.heap.size w wr ∧ w.heap.size + 1 ≤ wr.heap.size) (fun i _ => 32 - (intOf i).toNat)
  case atStart =>
    have h1 := heap_alloc_new w (.cells (rowOf (List.replicate 32 0)) 51)
    exact ⟨0, Nat.zero_le _, rfl, _, rfl, fun j hj => absurd hj (by omega), h1, (Below.refl _ _).alloc (Nat.le_refl _) _, by simp⟩
  case round =>
    obtain ⟨k, hk, rfl, cur, hcl, hcur, g1, hb, hz⟩ := hrel
    by_cases hlt : k < 32
    · have hp := two_pow_lt hlt
      have Hcur := Lib.hid hcur
      clear hcur
      go_wp2_with fail
      rw [pow2_mod hlt]
      refine (refEight_any (2 ^ k) hp _).mono ?_
      rintro e w1 ⟨rfl, rfl⟩
      have c3 := cell_rowOf g1 (at0_get (m := cur) (i := k) (by omega))
      have f3 := free_rowOf g1 k
      have H3 := Lib.hid (setCell_rowOf g1 k (Crc.eig (2 ^ k)))
      clear g1
      have H8 := Lib.hid (Crc.eig_eq (2 ^ k))
      generalize Crc.eig (2 ^ k) = v at H3 H8
      go_wp2_with fail
      go_roundw
      case rel =>
        refine ⟨k + 1, by omega, by go_num, cur.set k v, by simpa using hcl, fun j hj => ?_, H3.out, hb.setCell (Nat.le_refl _) _, by simpa [World.setCell] using hz⟩
        by_cases e : j = k
        · subst e; rw [List.getElem?_set_self (by omega), H8.out]
        · rw [List.getElem?_set_ne (by omega)]; exact Hcur.out j (by omega)
      case measure => simp [intOf]; omega
    · have hM : Mat 8 cur := ⟨hcl, fun i hi => hcur i (by omega)⟩
      clear hcur hcl
      obtain ⟨wo, rfl⟩ : ∃ wo : World, wo = wr := ⟨_, rfl⟩
      go_wp2_with fail
      go_loopw [0, 1] (fun v i wr => RelR x n w v i wr) (fun _ i _ => (intOf i).toNat)
      case atStart =>
        refine ⟨n.toNat, x, 8, cur, ?_, fun h => by omega, (show ((n.toNat : Int) ≤ 9223372036854775807) by omega), rfl, hx, hM, rfl, g1, hb, hz⟩
        congr 1
        split <;> omega
      case round =>
        obtain ⟨q, a, e, m, rfl, hq0, hq1', rfl, ha, hM, hS, g1, hb, hz⟩ := hrel
        have hq1 : (q : Int) ≤ 9223372036854775807 := hq1'
        by_cases hlt : 0 < q
        · have hn0 : ¬ n < 0 := fun h => by have := hq0 h; omega
          rw [if_neg hn0]
          clear hq0
          have hal := Crc.stps_lt e ha
          have Ht := Lib.hid (hM.tur ha)
          have HS := Lib.hid hS
          clear hS
          have hsz : (Try.prog.info? 51).map (·.size) = some (rowOf m).size := by rw [rowOf_size, hM.1]; exact row51
          have hdv := Lib.hid (show (q : Int) / 2 = ((q / 2 : Nat) : Int) by omega)
          obtain ⟨wq, rfl⟩ : ∃ wq : World, wq = wr := ⟨_, rfl⟩
          by_cases hodd : q % 2 = 1
          · have b1 : ((q : Int) % 2 == 1) = true := by rw [beq_iff_eq]; omega
            have HS2 := Lib.hid ((pow_odd e q a hodd).trans HS.out)
            clear hodd
            go_wp2_with (refine wpList_load_row rfl 51 (.tmp 5) rfl w.heap.size rfl 51 (rowOf m) (0, 0) _ g1 Try.underlying51 rfl hsz ?_)
            refine (turned_any m hM.1 hM.lt a ha _).mono ?_
            rintro _ w1 ⟨rfl, hb1⟩
            rw [Ht.out]
            have g2' : w1.heap[w.heap.size]? = some (.cells (rowOf m) 51) := (hb1.block w.heap.size (by omega)).trans g1
            have hb2' : Below w.heap.size w w1 := hb.trans (hb1.mono (by omega))
            have hz2' : w.heap.size + 1 ≤ w1.heap.size := Nat.le_trans hz hb1.size
            clear g1 hb hz hb1 hsz
            have hBz : w1.heap.size < (w1.alloc (.cells (rowOf (List.replicate 32 0)) 51)).heap.size := by simp
            have hI : RelI w w.heap.size w1.heap.size m (.int .i64 0) (w1.alloc (.cells (rowOf (List.replicate 32 0)) 51)) :=
              ⟨0, Nat.zero_le _, rfl, _, rfl, fun j hj => absurd hj (by omega), (Below.heap_alloc _ _ _ (by omega)).trans g2', heap_alloc_new _ _, hb2'.alloc hb2'.size _, hBz⟩
            clear hBz
            have hne : w.heap.size < w1.heap.size := by omega
            clear g2' hb2' hz2'
            go_wp2_with fail
            go_loopw [8] (fun i wr => RelI w w.heap.size w1.heap.size m i wr) (fun i _ => 32 - (intOf i).toNat)
            case atStart => exact hI
            case round =>
              clear hI
              obtain ⟨k, hk, rfl, cur, hcl, hcur, g1, g2, hb, hz⟩ := hrel
              by_cases hlt2 : k < 32
              · have hgt : m[k]? = some (at0 m k) := at0_get (by have := hM.1; omega)
                have hmk : at0 m k < 4294967296 := at0_lt hM.lt k
                have hT : Tx w w.heap.size w1.heap.size m cur k 51 wr := ⟨g1, ⟨cur, hcl, fun _ _ => rfl, g2⟩, hb, hne, hz⟩
                generalize hmm : at0 m k = mk at hmk hgt
                have Hmm := Lib.hid hmm
                have Hgt := Lib.hid hgt
                obtain ⟨hr1, c1, _⟩ := hT.reads hgt
                have Hcur := Lib.hid hcur
                clear hmm hgt g1 g2 hb hz hcur
                have hu := Try.underlying51
                have hi : (Try.prog.info? 51).map (·.size) = some (m.map fun n : Nat => Value.int .u32 (n : Int)).length := by rw [List.length_map, hM.1]; exact row51
                go_wp2_with fail
                go_region_held3 (fun w' => w'.rangeAt w.heap.size 0 (m.map fun n : Nat => Value.int .u32 (n : Int)) ∧ w'.cell? ⟨w.heap.size, k, none⟩ = some (.int .u32 (mk : Int)) ∧ Tx w w.heap.size w1.heap.size m cur k 51 w')
                  (first
                    | (refine ⟨?_, ?_, ?_⟩; exact hr1; exact c1; exact hT.drew)
                    | (refine Tx.reads ?_ Hgt.out; with_reducible assumption)
                    | (refine Tx.reads (Tx.set ?_ _) Hgt.out; with_reducible assumption))
                  (first
                    | (go_at_call 37; go_split_ands; refine (turned_any m hM.1 hM.lt mk hmk _).mono ?_; rintro _ w3 ⟨rfl, hb3⟩
                       have hT1 : Tx w w.heap.size w1.heap.size m cur k 51 w3 := Tx.below (by with_reducible assumption) hb3
                       obtain ⟨C, hC1, hC2, hC3⟩ := hT1.2.1
                       have c3 := cell_rowOf hC3 (at0_get (m := C) (i := k) (by omega))
                       have f3 := free_rowOf hC3 k))
                have hT2 := hT1.set (Crc.tur (at0 m) 32 mk)
                have H3 := Lib.hid (setCell_rowOf hC3 k (Crc.tur (at0 m) 32 mk))
                have HC2 := Lib.hid hC2
                clear hr1 c1 hT hT1 hu hi c3 f3 hC3 hC2
                go_wp2_with fail
                go_roundw
                case rel =>
                  obtain ⟨t1, _, t4, _, t5⟩ := hT2
                  refine ⟨k + 1, by omega, by go_num, C.set k (Crc.tur (at0 m) 32 mk), by simpa using hC1, fun j hj => ?_, t1, H3.out, t4, t5⟩
                  by_cases e : j = k
                  · subst e; rw [List.getElem?_set_self (by omega), Hmm.out]
                  · rw [List.getElem?_set_ne (by omega), HC2.out j (by omega)]; exact Hcur.out j (by omega)
                case measure => simp [intOf]; omega
              · have hcu : cur = twc m := by
                  apply List.ext_getElem?
                  intro j
                  rcases Nat.lt_or_ge j 32 with h | h
                  · rw [hcur j (by omega)]; simp [twc, List.getElem?_map, List.getElem?_range h]
                  · rw [List.getElem?_eq_none (by omega), List.getElem?_eq_none (by simp [twc]; omega)]
                have hs : (Try.prog.info? 51).map (·.size) = some (rowOf cur).size := by rw [rowOf_size, hcl]; exact row51
                have hMM : Mat (2 * e) cur := by rw [hcu]; exact hM.twice
                have hm1 := Lib.hid hM.1
                clear hcur hcu
                go_wp2_with (first
                  | (refine wpList_load_row rfl 51 (.tmp 7) rfl w1.heap.size rfl 51 (rowOf cur) (0, 0) _ g2 Try.underlying51 rfl hs ?_)
                  | (refine wpList_store_row rfl 51 (.tmp 5) (.tmp 37) rfl w.heap.size (rowOf cur) rfl rfl 51 _ g1 hs ?_ (rowOf_one _) ?_; (rw [rowOf_size, rowOf_size, hm1.out, hcl])))
                clear hq1 hn
                go_roundw
                case rel =>
                  have hq1 : (q : Int) ≤ 9223372036854775807 := hq1'
                  refine ⟨q / 2, Crc.stps e a, 2 * e, cur, by rw [if_neg (by omega)]; exact congrArg _ hdv.out, fun h => by omega, (show (((q / 2 : Nat) : Int) ≤ 9223372036854775807) by omega), rfl, hal, hMM, HS2.out, setRow_heap wr _ _ _ _ _ g1, below_setRow hb (Nat.le_refl _) _, by rw [setRow_size]; omega⟩
                case measure => simp [intOf]; omega
          · have b1 : ((q : Int) % 2 == 1) = false := by rw [beq_eq_false_iff_ne]; omega
            have HS2 := Lib.hid ((pow_even e q a (by omega)).trans HS.out)
            clear hodd hsz
            have hBz : wq.heap.size < (wq.alloc (.cells (rowOf (List.replicate 32 0)) 51)).heap.size := by simp
            have hI : RelI w w.heap.size wq.heap.size m (.int .i64 0) (wq.alloc (.cells (rowOf (List.replicate 32 0)) 51)) :=
              ⟨0, Nat.zero_le _, rfl, _, rfl, fun j hj => absurd hj (by omega), (Below.heap_alloc _ _ _ (by omega)).trans g1, heap_alloc_new _ _, hb.alloc hb.size _, hBz⟩
            clear hBz
            have hne : w.heap.size < wq.heap.size := by omega
            clear g1 hb hz
            go_wp2_with fail
            go_loopw [8] (fun i wr => RelI w w.heap.size wq.heap.size m i wr) (fun i _ => 32 - (intOf i).toNat)
            case atStart => exact hI
            case round =>
              clear hI
              obtain ⟨k, hk, rfl, cur, hcl, hcur, g1, g2, hb, hz⟩ := hrel
              by_cases hlt2 : k < 32
              · have hgt : m[k]? = some (at0 m k) := at0_get (by have := hM.1; omega)
                have hmk : at0 m k < 4294967296 := at0_lt hM.lt k
                have hT : Tx w w.heap.size wq.heap.size m cur k 51 wr := ⟨g1, ⟨cur, hcl, fun _ _ => rfl, g2⟩, hb, hne, hz⟩
                generalize hmm : at0 m k = mk at hmk hgt
                have Hmm := Lib.hid hmm
                have Hgt := Lib.hid hgt
                obtain ⟨hr1, c1, _⟩ := hT.reads hgt
                have Hcur := Lib.hid hcur
                clear hmm hgt g1 g2 hb hz hcur
                have hu := Try.underlying51
                have hi : (Try.prog.info? 51).map (·.size) = some (m.map fun n : Nat => Value.int .u32 (n : Int)).length := by rw [List.length_map, hM.1]; exact row51
                go_wp2_with fail
                go_region_held3 (fun w' => w'.rangeAt w.heap.size 0 (m.map fun n : Nat => Value.int .u32 (n : Int)) ∧ w'.cell? ⟨w.heap.size, k, none⟩ = some (.int .u32 (mk : Int)) ∧ Tx w w.heap.size wq.heap.size m cur k 51 w')
                  (first
                    | (refine ⟨?_, ?_, ?_⟩; exact hr1; exact c1; exact hT.drew)
                    | (refine Tx.reads ?_ Hgt.out; with_reducible assumption)
                    | (refine Tx.reads (Tx.set ?_ _) Hgt.out; with_reducible assumption))
                  (first
                    | (go_at_call 37; go_split_ands; refine (turned_any m hM.1 hM.lt mk hmk _).mono ?_; rintro _ w3 ⟨rfl, hb3⟩
                       have hT1 : Tx w w.heap.size wq.heap.size m cur k 51 w3 := Tx.below (by with_reducible assumption) hb3
                       obtain ⟨C, hC1, hC2, hC3⟩ := hT1.2.1
                       have c3 := cell_rowOf hC3 (at0_get (m := C) (i := k) (by omega))
                       have f3 := free_rowOf hC3 k))
                have hT2 := hT1.set (Crc.tur (at0 m) 32 mk)
                have H3 := Lib.hid (setCell_rowOf hC3 k (Crc.tur (at0 m) 32 mk))
                have HC2 := Lib.hid hC2
                clear hr1 c1 hT hT1 hu hi c3 f3 hC3 hC2
                go_wp2_with fail
                go_roundw
                case rel =>
                  obtain ⟨t1, _, t4, _, t5⟩ := hT2
                  refine ⟨k + 1, by omega, by go_num, C.set k (Crc.tur (at0 m) 32 mk), by simpa using hC1, fun j hj => ?_, t1, H3.out, t4, t5⟩
                  by_cases e : j = k
                  · subst e; rw [List.getElem?_set_self (by omega), Hmm.out]
                  · rw [List.getElem?_set_ne (by omega), HC2.out j (by omega)]; exact Hcur.out j (by omega)
                case measure => simp [intOf]; omega
              · have hcu : cur = twc m := by
                  apply List.ext_getElem?
                  intro j
                  rcases Nat.lt_or_ge j 32 with h | h
                  · rw [hcur j (by omega)]; simp [twc, List.getElem?_map, List.getElem?_range h]
                  · rw [List.getElem?_eq_none (by omega), List.getElem?_eq_none (by simp [twc]; omega)]
                have hs : (Try.prog.info? 51).map (·.size) = some (rowOf cur).size := by rw [rowOf_size, hcl]; exact row51
                have hMM : Mat (2 * e) cur := by rw [hcu]; exact hM.twice
                have hm1 := Lib.hid hM.1
                clear hcur hcu
                go_wp2_with (first
                  | (refine wpList_load_row rfl 51 (.tmp 7) rfl wq.heap.size rfl 51 (rowOf cur) (0, 0) _ g2 Try.underlying51 rfl hs ?_)
                  | (refine wpList_store_row rfl 51 (.tmp 5) (.tmp 37) rfl w.heap.size (rowOf cur) rfl rfl 51 _ g1 hs ?_ (rowOf_one _) ?_; (rw [rowOf_size, rowOf_size, hm1.out, hcl])))
                clear hq1 hn
                go_roundw
                case rel =>
                  have hq1 : (q : Int) ≤ 9223372036854775807 := hq1'
                  refine ⟨q / 2, a, 2 * e, cur, by rw [if_neg (by omega)]; exact congrArg _ hdv.out, fun h => by omega, (show (((q / 2 : Nat) : Int) ≤ 9223372036854775807) by omega), rfl, ha, hMM, HS2.out, setRow_heap wr _ _ _ _ _ g1, below_setRow hb (Nat.le_refl _) _, by rw [setRow_size]; omega⟩
                case measure => simp [intOf]; omega
        · obtain rfl : q = 0 := by omega
          have hng : ((if n < 0 then n else ((0 : Nat) : Int)) : Int) ≤ 0 := by split <;> omega
          generalize ((if n < 0 then n else ((0 : Nat) : Int)) : Int) = n' at hng
          have hS' : a = Crc.stps (8 * n.toNat) x := hS
          have HS' := Lib.hid hS'
          clear hS hS' hq0 hq1 hq1'
          go_wp2_with fail
          go_ret
          exact ⟨ret_int (congrArg _ HS'.out), hb⟩
end Go.Proofs.Ytdonocchidfooaa

/- The walk of super's read. -/
import Derived.Test.YthkopgmkdenebaaSupE
import Derived.Test.YthkopgmkdenebaaRdRaw2
import Derived.Test.YthkopgmkdenebaaApp
namespace Go.Proofs.Ythkopgmkdenebaa
open Go.RowKit
set_option linter.unusedVariables false
set_option maxRecDepth 100000

/-- a reader whose blocks lie from lo to hi -/
def RAt (lo hi p : Nat) (s : RS) (w : World) : Prop := ∃ a cap, IsR w p a cap s ∧ (lo ≤ p ∧ p < hi) ∧ ∀ k, blk a = some k → lo ≤ k ∧ k < hi
def Gets (lo hi p : Nat) (k : IntKind) (v : Nat) (s : RS) (w : World) (x : Ending) (w' : World) : Prop := x = .returned (.int k (v : Int)) ∧ RAt lo hi p s w' ∧ Chg (fun j => lo ≤ j ∧ j < hi) w w'
theorem RAt.chg {lo hi p : Nat} {s : RS} {w w' : World} {F : Nat → Prop} (h : RAt lo hi p s w) (hc : Chg F w w') (hF : ∀ k, F k → ¬ (lo ≤ k ∧ k < hi)) : RAt lo hi p s w' := by
  obtain ⟨a, cap, h1, h2, h3⟩ := h
  exact ⟨a, cap, h1.chg hc (fun f => hF _ f h2) (fun k hk f => hF _ f (h3 k hk)), h2, h3⟩
theorem RAt.aft {lo hi p : Nat} {s : RS} {w w' : World} {a : Option Addr} (h2 : lo ≤ p ∧ p < hi) (h3 : ∀ k, blk a = some k → lo ≤ k ∧ k < hi) (h : Aft w p a s w') : RAt lo hi p s w' ∧ Chg (fun j => lo ≤ j ∧ j < hi) w w' := by
  obtain ⟨a', cap', g1, g2, g3⟩ := h
  exact ⟨⟨a', cap', g1, h2, fun k hk => h3 k (g2 ▸ hk)⟩, g3.mono fun k _ e => e ▸ h2⟩
theorem getR8 (lo hi p : Nat) (s : RS) (w : World) (h : RAt lo hi p s w) :
    Calls Try.prog 76 #[.pointer (some ⟨p, 0, none⟩)] w (Gets lo hi p .u8 (s.get 1).1 (s.get 1).2 w) := by
  obtain ⟨a, cap, h1, h2, h3⟩ := h
  refine (get_uint8 p a cap s w h1).mono ?_
  rintro _ w' ⟨rfl, h4⟩
  exact ⟨rfl, RAt.aft h2 h3 h4⟩
theorem getR32 (lo hi p : Nat) (s : RS) (w : World) (h : RAt lo hi p s w) :
    Calls Try.prog 55 #[.pointer (some ⟨p, 0, none⟩)] w (Gets lo hi p .u32 (s.get 4).1 (s.get 4).2 w) := by
  obtain ⟨a, cap, h1, h2, h3⟩ := h
  refine (get_uint32 p a cap s w h1).mono ?_
  rintro _ w' ⟨rfl, h4⟩
  exact ⟨rfl, RAt.aft h2 h3 h4⟩
theorem getR64 (lo hi p : Nat) (s : RS) (w : World) (h : RAt lo hi p s w) :
    Calls Try.prog 75 #[.pointer (some ⟨p, 0, none⟩)] w (Gets lo hi p .u64 (s.get 8).1 (s.get 8).2 w) := by
  obtain ⟨a, cap, h1, h2, h3⟩ := h
  refine (get_uint64 p a cap s w h1).mono ?_
  rintro _ w' ⟨rfl, h4⟩
  exact ⟨rfl, RAt.aft h2 h3 h4⟩

def eRt : Elt := { t := 31, e := 50, size := 4, bytes := 32, z := .agg #[.int .i64 0, .int .i64 0, .int .i64 0, .int .i64 0], hu := Try.underlying31, hi := by kernel_rfl, hz := rfl, h0 := by decide }
/-- roots as cells -/
def cellsR (rs : List RT) : List Value := rs.flatMap fun r => [.int .i64 r.id, .int .i64 r.root, .int .i64 r.height, .int .i64 r.items]
/-- a list of roots that the program made -/
def ORt (w : World) (oa : Option Addr) (cap : Nat) (rs : List RT) : Prop := OR eRt w oa cap rs.length (cellsR rs)

/-- a root that is read -/
def getRoot (s : RS) : RT × RS :=
  (⟨(s.get 4).1, ((s.get 4).2.get 4).1, (((s.get 4).2.get 4).2.get 1).1, ((((s.get 4).2.get 4).2.get 1).2.get 4).1⟩, ((((s.get 4).2.get 4).2.get 1).2.get 4).2)
/-- so many roots, and what is left -/
def rootsR (s : RS) : Nat → List RT × RS
  | 0 => ([], s)
  | i + 1 => ((rootsR s i).1 ++ [(getRoot (rootsR s i).2).1], (getRoot (rootsR s i).2).2)
theorem rootsR_length (s : RS) (i : Nat) : (rootsR s i).1.length = i := by
  induction i with
  | zero => rfl
  | succ i ih => simp [rootsR, ih]
/-- the readers ahead of the roots -/
def rd1 (bs : List UInt8) : RS := ((⟨bs, 0⟩ : RS).get 4).2
def rd2 (bs : List UInt8) : RS := ((rd1 bs).get 8).2
def rd3 (bs : List UInt8) : RS := ((rd2 bs).get 4).2
def rd4 (bs : List UInt8) : RS := ((rd3 bs).get 1).2
def rd5 (bs : List UInt8) : RS := ((rd4 bs).get 4).2
def rd6 (bs : List UInt8) : RS := ((rd5 bs).get 4).2
def rd7 (bs : List UInt8) : RS := ((rd6 bs).get 1).2
def nRoots (bs : List UInt8) : Nat := ((rd6 bs).get 1).1
/-- what read says -/
def readR (bs : List UInt8) : SP := ⟨IntKind.i64.wrap (((rd1 bs).get 8).1 : Nat), ⟨((rd2 bs).get 4).1, ((rd3 bs).get 1).1, ((rd4 bs).get 4).1⟩, ((rd5 bs).get 4).1, (rootsR (rd7 bs) (nRoots bs)).1⟩

theorem get_lt (s : RS) (k : Nat) : (s.get k).1 < 256 ^ k := by
  unfold RS.get
  split
  · exact Nat.pow_pos (by omega)
  · split
    · exact Nat.pow_pos (by omega)
    · have := unle_lt (s.rest.take k)
      rw [List.length_take] at this
      exact Nat.lt_of_lt_of_le this (Nat.pow_le_pow_right (by omega) (by omega))
theorem cells6 {w : World} {g : Nat} {v0 v1 v2 v3 v4 v5 : Value} {T : TypeId} (h : w.heap[g]? = some (.cells #[v0, v1, v2, v3, v4, v5] T)) :
    w.cell? ⟨g, 0, none⟩ = some v0 ∧ w.cell? ⟨g, 1, none⟩ = some v1 ∧ w.cell? ⟨g, 2, none⟩ = some v2 ∧ w.cell? ⟨g, 3, none⟩ = some v3 ∧ w.cell? ⟨g, 4, none⟩ = some v4 ∧ w.cell? ⟨g, 5, none⟩ = some v5 ∧ (∀ k, w.frozen? ⟨g, k, none⟩ = false) := by
  simp [World.cell?, World.frozen?, h]
theorem news4 {w : World} {g : Nat} {v0 v1 v2 v3 : Value} (h0 : w.cell? ⟨g, 0, none⟩ = some v0) (h1 : w.cell? ⟨g, 1, none⟩ = some v1) (h2 : w.cell? ⟨g, 2, none⟩ = some v2) (h3 : w.cell? ⟨g, 3, none⟩ = some v3) :
    ∀ j u, [v0, v1, v2, v3][j]? = some u → w.cell? ((⟨g, 0, none⟩ : Addr).add j) = some u := by
  intro j u hj
  rw [add_none, Nat.zero_add]
  match j, hj with
  | 0, hj => cases hj; exact h0
  | 1, hj => cases hj; exact h1
  | 2, hj => cases hj; exact h2
  | 3, hj => cases hj; exact h3
theorem cells4 {w : World} {g : Nat} {v0 v1 v2 v3 : Value} {T : TypeId} (h : w.heap[g]? = some (.cells #[v0, v1, v2, v3] T)) :
    w.cell? ⟨g, 0, none⟩ = some v0 ∧ w.cell? ⟨g, 1, none⟩ = some v1 ∧ w.cell? ⟨g, 2, none⟩ = some v2 ∧ w.cell? ⟨g, 3, none⟩ = some v3 ∧ (∀ k, w.frozen? ⟨g, k, none⟩ = false) := by
  simp [World.cell?, World.frozen?, h]
theorem set_row {w : World} {g : Nat} {cs : Array Value} {T : TypeId} (h : w.heap[g]? = some (.cells cs T)) (k : Nat) (u : Value) : (w.setCell ⟨g, k, none⟩ u).heap[g]? = some (.cells (cs.set! k u) T) := by
  rw [setCell_eq_setRow w g k _ T (0, 0) u h, setRow_heap w g _ _ T (0, 0) h]; rfl

/-- what a call of read leaves: a superblock whose roots are a list of its own -/
def ReadS (s : SP) (w : World) (e : Ending) (w' : World) : Prop :=
  ∃ oa cap, e = .returned (spv s oa cap) ∧ ORt w' oa cap s.roots ∧ (∀ k, blk oa = some k → w.heap.size ≤ k) ∧ Below w.heap.size w w'

/-- where the loop over the roots stands -/
def RelR (W : World) (lo hi p gen bl cl re nx n : Nat) (sr : RS) (i : Value) (wr : World) : Prop :=
  ∃ k : Nat, k ≤ n ∧ i = .int .u8 k ∧ RAt lo hi p (rootsR sr k).2 wr ∧ ∃ oa oc, wr.heap[W.heap.size]? = some (sBox (wrap64 (gen : Int)) bl cl re nx oa k oc) ∧ OR eRt wr oa oc k (cellsR (rootsR sr k).1) ∧ (∀ j, blk oa = some j → W.heap.size < j) ∧ Chg (fun j => lo ≤ j) (W.alloc (sBox (wrap64 (gen : Int)) 0 0 0 0 none 0 0)) wr

set_option maxHeartbeats 4000000 in
theorem read_any (bs : List UInt8) (a : Option Addr) (cap : Nat) (w : World) (hb : Bts w a bs) (hc : a = none → cap = 0) (hl : bs.length = 512) :
    Calls Try.prog 57 #[.slice a 512 cap] w (ReadS (readR bs) w) := by
  have hbB := one_below w (sBox 0 0 0 0 0 none 0 0)
  have H := Lib.hid (newReader_any a cap bs (w.alloc (sBox 0 0 0 0 0 none 0 0)) (hb.below hbB) hc (by omega))
  rw [hl] at H
  have Hg0 := Lib.hid (heap_alloc_new w (sBox 0 0 0 0 0 none 0 0))
  unfold sBox at H
  clear hb hc hl hbB
  go_enter Try.func57, Try.ntmps57
  go_wp2_with fail
  refine H.out.mono ?_
  clear H
  rintro _ w1 ⟨p, ra, rc, rfl, hI, hp1, ha1, hb1⟩
  obtain ⟨lo, hlo⟩ : ∃ lo, lo = w.heap.size + 1 := ⟨_, rfl⟩
  have hsz : (w.alloc (sBox 0 0 0 0 0 none 0 0)).heap.size = lo := by rw [hlo]; simp
  unfold sBox at hsz
  rw [hsz] at hp1 ha1 hb1
  obtain ⟨hi, hhi⟩ : ∃ hi, hi = w1.heap.size := ⟨_, rfl⟩
  have hlh : lo ≤ hi := by rw [hhi, ← hsz]; exact hb1.size
  have hR1 : RAt lo hi p ⟨bs, 0⟩ w1 := ⟨ra, rc, hI, ⟨hp1, by rw [hhi]; exact hI.lt⟩, fun k hk => ⟨ha1 k hk, by rw [hhi]; exact hI.2.2.2.2.2.2.2 k hk⟩⟩
  have Hg1 := Lib.hid ((hb1.block w.heap.size (by omega)).trans Hg0.out)
  have HB1 := Lib.hid ((one_below w (.cells #[.int .i64 0, .int .i64 0, .int .i64 0, .int .i64 0, .int .i64 0, .slice none 0 0] 33)).trans (hb1.mono (by omega)))
  have H := Lib.hid (getR32 _ _ _ _ w1 hR1)
  clear hI ha1 hb1 hR1 hp1 hsz Hg0
  go_wp2_with fail
  refine H.out.mono ?_
  clear H
  rintro _ w2 ⟨rfl, hR2, hc2⟩
  have hR2 : RAt lo hi p (rd1 bs) w2 := hR2
  have H := Lib.hid (getR64 _ _ _ _ w2 hR2)
  have hgl := get_lt (rd1 bs) 8
  have hrr : readR bs = ⟨IntKind.i64.wrap (((rd1 bs).get 8).1 : Nat), ⟨((rd2 bs).get 4).1, ((rd3 bs).get 1).1, ((rd4 bs).get 4).1⟩, ((rd5 bs).get 4).1, (rootsR (rd7 bs) (nRoots bs)).1⟩ := rfl
  rw [show ((rd1 bs).get 8).2 = rd2 bs from rfl] at H
  generalize ((rd1 bs).get 8).1 = gen at H hgl hrr
  generalize ((⟨bs, 0⟩ : RS).get 4).1 = mg
  have Hc2 := Lib.hid hc2
  clear hR2 hc2
  go_wp2_with fail
  refine H.out.mono ?_
  clear H
  rintro _ w3 ⟨rfl, hR3, hc3⟩
  have hc3 := Hc2.out.trans hc3 (fun i _ e => e)
  have hg3 : hi ≤ w3.heap.size := by rw [hhi]; exact hc3.size
  have hR3' := hR3.chg (F := fun _ => False) (Chg.of_below (one_below w3 (sBox (wrap64 (gen : Int)) 0 0 0 0 none 0 0))) (fun _ f => f.elim)
  have hS3 := heap_alloc_new w3 (sBox (wrap64 (gen : Int)) 0 0 0 0 none 0 0)
  have HB3 := Lib.hid (HB1.out.trans (hc3.below (B := w.heap.size) (by omega) (fun k hk => by omega)))
  have HG3 := Lib.hid ((hc3.block w.heap.size (by omega) (fun e => by omega)).trans Hg1.out)
  have hz3 : w3.heap.size < (w3.alloc (sBox (wrap64 (gen : Int)) 0 0 0 0 none 0 0)).heap.size := by simp
  have hb3 := one_below w3 (sBox (wrap64 (gen : Int)) 0 0 0 0 none 0 0)
  have H := Lib.hid (getR32 _ _ _ _ _ hR3')
  rw [show ((rd2 bs).get 4).2 = rd3 bs from rfl] at H
  have hbl := get_lt (rd2 bs) 4
  generalize ((rd2 bs).get 4).1 = bl at H hbl hrr
  have HS3 := Lib.hid hS3
  have Hz3 := Lib.hid hz3
  have Hb3 := Lib.hid hb3
  unfold sBox at H
  clear hR3 hR3' hS3 hz3 hb3 Hg1 HB1 Hc2 hc3
  go_wp2_with fail
  refine H.out.mono ?_
  clear H
  rintro _ w4 ⟨rfl, hR4, hc4⟩
  have H := Lib.hid (getR8 _ _ _ _ _ hR4)
  rw [show ((rd3 bs).get 1).2 = rd4 bs from rfl] at H
  have hcl := get_lt (rd3 bs) 1
  generalize ((rd3 bs).get 1).1 = cl at H hcl hrr
  have Hc4 := Lib.hid hc4
  clear hR4 hc4
  go_wp2_with fail
  refine H.out.mono ?_
  clear H
  rintro _ w5 ⟨rfl, hR5, hc5⟩
  have hc5 := Hc4.out.trans hc5 (fun i _ e => e)
  have H := Lib.hid (getR32 _ _ _ _ _ hR5)
  rw [show ((rd4 bs).get 4).2 = rd5 bs from rfl] at H
  have hre := get_lt (rd4 bs) 4
  generalize ((rd4 bs).get 4).1 = re at H hre hrr
  have Hc5 := Lib.hid hc5
  clear hR5 hc5
  go_wp2_with fail
  refine H.out.mono ?_
  clear H
  rintro _ w6 ⟨rfl, hR6, hc6⟩
  have hc6 := Hc5.out.trans hc6 (fun i _ e => e)
  have hS6 : w6.heap[w3.heap.size]? = some (sBox (wrap64 (gen : Int)) 0 0 0 0 none 0 0) := (hc6.block w3.heap.size Hz3.out (fun e => by omega)).trans HS3.out
  obtain ⟨y0, y1, y2, y3, y4, y5, yf⟩ := cells6 hS6
  have f1 := yf 1
  have f2 := yf 2
  have f3 := yf 3
  have HS6 := Lib.hid (set_row (set_row (set_row hS6 1 (.int .i64 (bl : Int))) 2 (.int .i64 (cl : Int))) 3 (.int .i64 (re : Int)))
  have hR7 := ((hR6.chg (Chg.set w6 ⟨w3.heap.size, 1, none⟩ (.int .i64 (bl : Int))) (fun k (e : k = _) => by subst e; show ¬ (lo ≤ w3.heap.size ∧ w3.heap.size < hi); omega)).chg (Chg.set _ ⟨w3.heap.size, 2, none⟩ (.int .i64 (cl : Int))) (fun k (e : k = _) => by subst e; show ¬ (lo ≤ w3.heap.size ∧ w3.heap.size < hi); omega)).chg (Chg.set _ ⟨w3.heap.size, 3, none⟩ (.int .i64 (re : Int))) (fun k (e : k = _) => by subst e; show ¬ (lo ≤ w3.heap.size ∧ w3.heap.size < hi); omega)
  have HC7 := Lib.hid (((hc6.mono (G := fun k => lo ≤ k) (fun k _ e => e.1)).setCell ⟨w3.heap.size, 1, none⟩ (.int .i64 (bl : Int)) (fun _ => by show lo ≤ w3.heap.size; omega)).setCell ⟨w3.heap.size, 2, none⟩ (.int .i64 (cl : Int)) (fun _ => by show lo ≤ w3.heap.size; omega) |>.setCell ⟨w3.heap.size, 3, none⟩ (.int .i64 (re : Int)) (fun _ => by show lo ≤ w3.heap.size; omega))
  have H := Lib.hid (getR32 _ _ _ _ _ hR7)
  rw [show ((rd5 bs).get 4).2 = rd6 bs from rfl] at H
  have hnx := get_lt (rd5 bs) 4
  generalize ((rd5 bs).get 4).1 = nx at H hnx hrr
  clear hR6 hR7 hc6 hS6 yf Hc5 Hc4 HS3
  go_wp2_with fail
  clear y0 y1 y2 y3 y4 y5 f1 f2 f3
  refine H.out.mono ?_
  clear H
  rintro _ w7 ⟨rfl, hR7, hc7⟩
  have hS7 : w7.heap[w3.heap.size]? = some (sBox (wrap64 (gen : Int)) bl cl re 0 none 0 0) := (hc7.block w3.heap.size (Nat.lt_of_lt_of_le Hz3.out HC7.out.size) (fun e => by omega)).trans (HS6.out.trans rfl)
  have hc7 := HC7.out.trans hc7 (fun i _ e => e.1)
  obtain ⟨y0, y1, y2, y3, y4, y5, yf⟩ := cells6 hS7
  have f4 := yf 4
  have HS7 := Lib.hid (set_row hS7 4 (.int .i64 (nx : Int)))
  have hR8 := hR7.chg (Chg.set w7 ⟨w3.heap.size, 4, none⟩ (.int .i64 (nx : Int))) (fun k (e : k = _) => by subst e; show ¬ (lo ≤ w3.heap.size ∧ w3.heap.size < hi); omega)
  have HC8 := Lib.hid (hc7.setCell ⟨w3.heap.size, 4, none⟩ (.int .i64 (nx : Int)) (fun _ => by show lo ≤ w3.heap.size; omega))
  have H := Lib.hid (getR8 _ _ _ _ _ hR8)
  rw [show ((rd6 bs).get 1).2 = rd7 bs from rfl, show ((rd6 bs).get 1).1 = nRoots bs from rfl] at H
  have hn : nRoots bs < 256 := get_lt (rd6 bs) 1
  have Hrr := Lib.hid hrr
  clear hR7 hR8 hc7 hS7 yf HC7 hrr
  generalize nRoots bs = n at H hn Hrr
  go_wp2_with fail
  clear y0 y1 y2 y3 y4 y5 f4
  refine H.out.mono ?_
  clear H
  rintro _ w8 ⟨rfl, hR8, hc8⟩
  have hS8 : w8.heap[w3.heap.size]? = some (sBox (wrap64 (gen : Int)) bl cl re nx none 0 0) := (hc8.block w3.heap.size (Nat.lt_of_lt_of_le Hz3.out HC8.out.size) (fun e => by omega)).trans (HS7.out.trans rfl)
  have hc8 := HC8.out.trans hc8 (fun i _ e => e.1)
  have HS8 := Lib.hid hS8
  have HR8 := Lib.hid hR8
  have HC8 := Lib.hid hc8
  clear hS8 hR8 hc8
  generalize hrd : rd7 bs = sr at HR8 Hrr
  clear hrd
  go_wp2_with fail
  go_loopw [31] (fun i wr => RelR w3 lo hi p gen bl cl re nx n sr i wr) (fun i _ => n - (intOf i).toNat)
  case atStart => exact ⟨0, Nat.zero_le _, rfl, HR8.out, none, 0, HS8.out, OR.nil _ _, (fun k hk => by cases hk), HC8.out⟩
  case round =>
    clear HS8 HR8 HC8
    obtain ⟨k, hk, rfl, hR, oa, oc, hS, hO, hof, hc⟩ := hrel
    by_cases hlt : k < n
    · have H := Lib.hid (getR32 _ _ _ _ _ hR)
      have Hc0 := Lib.hid hc
      have HS0 := Lib.hid hS
      have HO0 := Lib.hid hO
      have Hof := Lib.hid hof
      clear hR hc hS hO hof
      generalize hpr : rootsR sr k = pr at H HO0
      have Hpr := Lib.hid hpr
      clear hpr
      go_wp2_with fail
      refine H.out.mono ?_
      clear H
      rintro _ v1 ⟨rfl, hR1, hc1⟩
      have hv1 := get_lt pr.2 4
      generalize hq1 : (pr.2.get 4).1 = id at hv1
      generalize hq2 : (pr.2.get 4).2 = s1 at hR1
      have Hq1 := Lib.hid hq1
      have Hq2 := Lib.hid hq2
      clear hq1 hq2
      have hvz : hi ≤ v1.heap.size := by
        have h1 := Hc0.out.size
        have h2 := hc1.size
        have h3 := Hz3.out
        omega
      have Hvz1 := Lib.hid hc1.size
      have hR1' := hR1.chg (F := fun _ => False) (Chg.of_below (one_below v1 (rtBox ⟨id, 0, 0, 0⟩))) (fun _ f => f.elim)
      have HX1 := Lib.hid (heap_alloc_new v1 (rtBox ⟨id, 0, 0, 0⟩))
      have HXz := Lib.hid (show v1.heap.size < (v1.alloc (rtBox ⟨id, 0, 0, 0⟩)).heap.size by simp)
      have HV1 := Lib.hid (hc1.trans (Chg.of_below (F := fun j => lo ≤ j ∧ j < hi) (one_below v1 (rtBox ⟨id, 0, 0, 0⟩))) (fun i _ e => e))
      have H := Lib.hid (getR32 _ _ _ _ _ hR1')
      unfold rtBox at H
      clear hR1 hR1' hc1
      go_wp2_with fail
      refine H.out.mono ?_
      clear H
      rintro _ v2 ⟨rfl, hR2, hc2⟩
      have hv2 := get_lt s1 4
      generalize hq1 : (s1.get 4).1 = ro at hv2
      generalize hq2 : (s1.get 4).2 = s2 at hR2
      have Hro := Lib.hid hq1
      have Hs2 := Lib.hid hq2
      clear hq1 hq2
      have H := Lib.hid (getR8 _ _ _ _ _ hR2)
      have Hv2 := Lib.hid hc2
      clear hR2 hc2
      go_wp2_with fail
      refine H.out.mono ?_
      clear H
      rintro _ v3 ⟨rfl, hR3, hc3⟩
      have hc3 := Hv2.out.trans hc3 (fun i _ e => e)
      have hv3 := get_lt s2 1
      generalize hq1 : (s2.get 1).1 = he at hv3
      generalize hq2 : (s2.get 1).2 = s3 at hR3
      have Hhe := Lib.hid hq1
      have Hs3 := Lib.hid hq2
      clear hq1 hq2
      have H := Lib.hid (getR32 _ _ _ _ _ hR3)
      have Hv3 := Lib.hid hc3
      clear hR3 hc3
      go_wp2_with fail
      refine H.out.mono ?_
      clear H
      rintro _ v4 ⟨rfl, hR4, hc4⟩
      have hc4 := Hv3.out.trans hc4 (fun i _ e => e)
      have hv4 := get_lt s3 4
      generalize hq1 : (s3.get 4).1 = it at hv4
      generalize hq2 : (s3.get 4).2 = s4 at hR4
      have Hit := Lib.hid hq1
      have Hs4 := Lib.hid hq2
      clear hq1 hq2
      have hX4 := (hc4.block v1.heap.size HXz.out (fun e => by omega)).trans HX1.out
      unfold rtBox at hX4
      obtain ⟨x0, x1, x2, x3, xf⟩ := cells4 hX4
      have f1 := xf 1
      have f2 := xf 2
      have f3 := xf 3
      have hC4 := HV1.out.trans hc4 (fun i _ e => e)
      have hwv : w3.heap.size < wr.heap.size := Nat.lt_of_lt_of_le Hz3.out Hc0.out.size
      have hwz : wr.heap.size ≤ v1.heap.size := Hvz1.out
      have hS4 := (hC4.block w3.heap.size hwv (fun e => by omega)).trans HS0.out
      have hC5 : Chg (fun j => (lo ≤ j ∧ j < hi) ∨ j = v1.heap.size) wr (((v4.setCell ⟨v1.heap.size, 1, none⟩ (.int .i64 (ro : Int))).setCell ⟨v1.heap.size, 2, none⟩ (.int .i64 (he : Int))).setCell ⟨v1.heap.size, 3, none⟩ (.int .i64 (it : Int))) :=
        (((hC4.mono (fun j _ e => .inl e)).setCell ⟨v1.heap.size, 1, none⟩ _ (fun _ => .inr rfl)).setCell ⟨v1.heap.size, 2, none⟩ _ (fun _ => .inr rfl)).setCell ⟨v1.heap.size, 3, none⟩ _ (fun _ => .inr rfl)
      have hX5 := set_row (set_row (set_row hX4 1 (.int .i64 (ro : Int))) 2 (.int .i64 (he : Int))) 3 (.int .i64 (it : Int))
      have hS5 := (hC5.block w3.heap.size hwv (fun e => by omega)).trans HS0.out
      have hO5 := HO0.out.chg hC5 (fun j hj e => by have h1 := Hof.out j hj; have h2 := HO0.out.lt j hj; omega)
      have hR5 := ((hR4.chg (Chg.set v4 ⟨v1.heap.size, 1, none⟩ (.int .i64 (ro : Int))) (fun k (e : k = _) => by subst e; show ¬ (lo ≤ v1.heap.size ∧ v1.heap.size < hi); omega)).chg (Chg.set _ ⟨v1.heap.size, 2, none⟩ (.int .i64 (he : Int))) (fun k (e : k = _) => by subst e; show ¬ (lo ≤ v1.heap.size ∧ v1.heap.size < hi); omega)).chg (Chg.set _ ⟨v1.heap.size, 3, none⟩ (.int .i64 (it : Int))) (fun k (e : k = _) => by subst e; show ¬ (lo ≤ v1.heap.size ∧ v1.heap.size < hi); omega)
      obtain ⟨y0, y1, y2, y3, y4, y5, yf⟩ := cells6 hS5
      obtain ⟨q0, q1, q2, q3, qf⟩ := cells4 (hX5.trans rfl)
      have hb6 := one_below (((v4.setCell ⟨v1.heap.size, 1, none⟩ (.int .i64 (ro : Int))).setCell ⟨v1.heap.size, 2, none⟩ (.int .i64 (he : Int))).setCell ⟨v1.heap.size, 3, none⟩ (.int .i64 (it : Int))) (.cells #[.int .i64 (id : Int), .int .i64 (ro : Int), .int .i64 (he : Int), .int .i64 (it : Int)] 50)
      have hsz5 : (((v4.setCell ⟨v1.heap.size, 1, none⟩ (.int .i64 (ro : Int))).setCell ⟨v1.heap.size, 2, none⟩ (.int .i64 (he : Int))).setCell ⟨v1.heap.size, 3, none⟩ (.int .i64 (it : Int))).heap.size = v4.heap.size := by simp
      have hnew : ((((v4.setCell ⟨v1.heap.size, 1, none⟩ (.int .i64 (ro : Int))).setCell ⟨v1.heap.size, 2, none⟩ (.int .i64 (he : Int))).setCell ⟨v1.heap.size, 3, none⟩ (.int .i64 (it : Int))).alloc (.cells #[.int .i64 (id : Int), .int .i64 (ro : Int), .int .i64 (he : Int), .int .i64 (it : Int)] 50)).heap[v4.heap.size]? = some (.cells #[.int .i64 (id : Int), .int .i64 (ro : Int), .int .i64 (he : Int), .int .i64 (it : Int)] 50) := by rw [← hsz5]; exact heap_alloc_new _ _
      obtain ⟨n0, n1, n2, n3, -⟩ := cells4 hnew
      have HNW := Lib.hid (news4 n0 n1 n2 n3)
      have HO6 := Lib.hid (OR.chg (F := fun _ => False) hO5 (Chg.of_below hb6) (fun _ _ f => f))
      have HC6 := Lib.hid (hC5.trans (Chg.of_below (F := fun j => (lo ≤ j ∧ j < hi) ∨ j = v1.heap.size) hb6) (fun i _ e => e))
      have HR6 := Lib.hid (hR5.chg (F := fun _ => False) (Chg.of_below hb6) (fun _ f => f.elim))
      have hz6 : wr.heap.size ≤ ((((v4.setCell ⟨v1.heap.size, 1, none⟩ (.int .i64 (ro : Int))).setCell ⟨v1.heap.size, 2, none⟩ (.int .i64 (he : Int))).setCell ⟨v1.heap.size, 3, none⟩ (.int .i64 (it : Int))).alloc (.cells #[.int .i64 (id : Int), .int .i64 (ro : Int), .int .i64 (he : Int), .int .i64 (it : Int)] 50)).heap.size := HC6.out.size
      have HS6' := Lib.hid ((HC6.out.block w3.heap.size hwv (fun e => by omega)).trans HS0.out)
      clear hX5 hS5 hO5 hC5 hR5 hC4 hR4 hc4 hX4 hS4 hb6 hnew n0 n1 n2 n3
      go_wp2_with (at_builtin; go_must (refine wpList_append_or eRt rfl (.tmp 49) (.tmp 51) rfl (n := k) (cs := cellsR pr.1) rfl HO6.out rfl (m := 1) (news := [.int .i64 (id : Int), .int .i64 (ro : Int), .int .i64 (he : Int), .int .i64 (it : Int)]) rfl (.inr ⟨_, rfl, HNW.out⟩) (by simp [Value.oneCell']) (by show (k + 1) * 32 ≤ _; omega) (by omega) ?_)
                   intro oa5 oc5 w5 hO7 hC7 hb7 _
                   have hS7 := (hC7.block w3.heap.size (by omega) (fun e => by have := Hof.out _ e; omega)).trans HS6'.out
                   have hR7 := HR6.out.chg hC7 (fun j e => by have := Hof.out _ e; omega)
                   have HS7' := Lib.hid (set_row hS7 5 (.slice oa5 (k + 1) oc5))
                   have HR7 := Lib.hid (hR7.chg (Chg.set w5 ⟨w3.heap.size, 5, none⟩ (.slice oa5 (k + 1) oc5)) (fun j (e : j = _) => by subst e; show ¬ (lo ≤ w3.heap.size ∧ w3.heap.size < hi); omega))
                   have HO7 := Lib.hid hO7
                   have HC7' := Lib.hid hC7
                   have Hb7 := Lib.hid hb7
                   obtain ⟨s0, s1', s2', s3', s4', s5', sf⟩ := cells6 hS7
                   have sf5 := sf 5
                   clear hS7 hR7 hO7 hC7 hb7 sf)
      have e1 : (rootsR sr (k + 1)).2 = s4 := by simp only [rootsR, getRoot, Hpr.out, Hq2.out, Hs2.out, Hs3.out, Hs4.out]
      have e2 : cellsR (rootsR sr (k + 1)).1 = cellsR pr.1 ++ [.int .i64 (id : Int), .int .i64 (ro : Int), .int .i64 (he : Int), .int .i64 (it : Int)] := by
        simp only [rootsR, getRoot, Hpr.out, Hq1.out, Hq2.out, Hro.out, Hs2.out, Hhe.out, Hs3.out, Hit.out]
        simp [cellsR]
      have hof5 : ∀ j, blk oa5 = some j → w3.heap.size < j := fun j hj => by
        rcases Hb7.out with e | e
        · exact Hof.out j (e ▸ hj)
        · rw [e] at hj; cases hj; omega
      refine ⟨⟨k + 1, by omega, by go_num, by rw [e1]; exact HR7.out, oa5, oc5, HS7'.out.trans rfl, by rw [e2]; exact HO7.out.chg (Chg.set w5 ⟨w3.heap.size, 5, none⟩ _) (fun j hj (e : j = _) => by have := hof5 j hj; subst e; exact absurd this (Nat.lt_irrefl _)), hof5, ?_⟩, by simp [intOf]; omega⟩
      exact (((Hc0.out.trans HC6.out (fun j _ e => by rcases e with e | e <;> omega)).trans HC7'.out (fun j _ e => by have := Hof.out j e; omega)).setCell ⟨w3.heap.size, 5, none⟩ _ (fun _ => by show lo ≤ w3.heap.size; omega))
    · obtain rfl : k = n := by omega
      obtain ⟨y0, y1, y2, y3, y4, y5, -⟩ := cells6 hS
      have hG := (hc.block w.heap.size (by have := Hz3.out; omega) (fun e => by omega)).trans ((heap_alloc_old _ _ (show w.heap.size < w3.heap.size by omega)).trans HG3.out)
      obtain ⟨r0, r1, r2, r3, r4, r5, rf⟩ := cells6 hG
      have f0 := rf 0
      have f1 := rf 1
      have f2 := rf 2
      have f3 := rf 3
      have f4 := rf 4
      have f5 := rf 5
      have HG := Lib.hid hG
      have HO := Lib.hid hO
      have Hof := Lib.hid hof
      have HBr := Lib.hid ((HB3.out.trans (Hb3.out.mono (by omega))).trans (hc.below (B := w.heap.size) (by simp; omega) (fun j hj => by omega)))
      have hrl := rootsR_length sr k
      clear hS hG hO hof hc rf hR
      go_wp2_with fail
      have HF := set_row (set_row (set_row (set_row (set_row (set_row HG.out 0 (.int .i64 (wrap64 (gen : Int)))) 1 (.int .i64 (bl : Int))) 2 (.int .i64 (cl : Int))) 3 (.int .i64 (re : Int))) 4 (.int .i64 (nx : Int))) 5 (.slice oa k oc)
      refine bodyPost_ret (v := .agg #[.int .i64 (wrap64 (gen : Int)), .int .i64 (bl : Int), .int .i64 (cl : Int), .int .i64 (re : Int), .int .i64 (nx : Int), .slice oa k oc])
        (results_cell_row Try.results57 _ _ w.heap.size 33 _ (0, 0) _ rfl (HF.trans rfl) Try.underlying33 rfl (by kernel_rfl)) rfl ?_
      have HC : Chg (fun j => j = w.heap.size) wr _ := (((((((Chg.refl (fun j => j = w.heap.size) wr).setCell ⟨w.heap.size, 0, none⟩ (.int .i64 (wrap64 (gen : Int))) (fun _ => rfl)).setCell ⟨w.heap.size, 1, none⟩ (.int .i64 (bl : Int)) (fun _ => rfl)).setCell ⟨w.heap.size, 2, none⟩ (.int .i64 (cl : Int)) (fun _ => rfl)).setCell ⟨w.heap.size, 3, none⟩ (.int .i64 (re : Int)) (fun _ => rfl)).setCell ⟨w.heap.size, 4, none⟩ (.int .i64 (nx : Int)) (fun _ => rfl)).setCell ⟨w.heap.size, 5, none⟩ (.slice oa k oc) (fun _ => rfl))
      refine ⟨oa, oc, ?_, ?_, fun j hj => by have := Hof.out j hj; omega, HBr.out.trans (HC.below HBr.out.size (fun j (e : j = _) => by omega))⟩
      · rw [Hrr.out]
        simp only [spv, hrl]
        rw [show IntKind.i64.wrap (gen : Int) = wrap64 (gen : Int) from IntWalk.i64_left _]
      · rw [Hrr.out]
        unfold ORt
        simp only [hrl]
        exact HO.out.chg HC (fun j hj e => by have := Hof.out j hj; omega)
end Go.Proofs.Ythkopgmkdenebaa

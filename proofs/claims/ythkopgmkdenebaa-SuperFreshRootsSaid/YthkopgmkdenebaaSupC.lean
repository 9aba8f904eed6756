/- The walks of both Checks of superblocks. -/
import Derived.Test.YthkopgmkdenebaaSupL
namespace Go.Proofs.Ythkopgmkdenebaa
open Go.RowKit
set_option linter.unusedVariables false
set_option maxRecDepth 100000

def trv (r : RT) : Value := .agg #[.int .i64 r.root, .int .i64 r.height, .int .i64 r.items]
def trBox (w : World) (P : Int) (b f : Int) (r : RT) : World := (w.alloc (.cells #[.int .i64 P, .int .i64 b, .int .i64 f] 26)).alloc (.cells #[.int .i64 r.root, .int .i64 r.height, .int .i64 r.items] 48)

set_option maxHeartbeats 400000 in
theorem can_any (P b f : Int) (hP : 0 ≤ P ∧ P ≤ 65536) (r : RT) (hr : r.ok) (w : World) :
    Calls Try.prog 63 #[.agg #[.int .i64 P, .int .i64 b, .int .i64 f], trv r] w fun e w' => e = .returned (.bool (decide (CanT P r))) ∧ Below w.heap.size w w' := by
  obtain ⟨id, ro, he, it⟩ := r
  obtain ⟨-, h1, h2, h3⟩ := hr
  simp only at h1 h2 h3
  have HB := Lib.hid (two_below w)
  unfold CanT trv
  simp only
  have g1 := Lib.hid h1
  have g2 := Lib.hid h2
  have g3 := Lib.hid h3
  clear h1 h2 h3
  go_enter Try.func63, Try.ntmps63
  go_wp2_with (go_at_call 62; refine (in_any _ _ _ _ (by first | exact g1.out | exact g2.out | exact g3.out | (unfold i64ok; omega))).mono ?_; rintro _ _ ⟨rfl, rfl⟩)
  all_goals try (go_ret; refine ⟨ret_bool ?_, HB.out _ _⟩; clear HB g1 g2 g3; grind)

set_option maxHeartbeats 400000 in
theorem treeCan_any (P b f : Int) (hP : 0 ≤ P ∧ P ≤ 65536) (r : RT) (w : World) :
    Calls Try.prog 64 #[.agg #[.int .i64 P, .int .i64 b, .int .i64 f], trv r] w fun e w' => e = .returned (.bool (decide (CanT P r))) ∧ Below w.heap.size w w' := by
  obtain ⟨id, ro, he, it⟩ := r
  have HB := Lib.hid (two_below w)
  unfold CanT trv
  simp only
  go_enter Try.func64, Try.ntmps64
  go_wp2_with fail
  all_goals try (go_ret; refine ⟨ret_bool ?_, HB.out _ _⟩; clear HB; grind)

/-- the variable that holds a superblock -/
def sBox (gen bl cl re nx : Int) (a : Option Addr) (n cap : Nat) : Obj := .cells #[.int .i64 gen, .int .i64 bl, .int .i64 cl, .int .i64 re, .int .i64 nx, .slice a n cap] 33
def SBox (w : World) (g : Nat) (gen bl cl re nx : Int) (a : Option Addr) (n cap : Nat) : Prop := w.heap[g]? = some (sBox gen bl cl re nx a n cap)
theorem SBox.kept {w w' : World} {g : Nat} {gen bl cl re nx : Int} {a : Option Addr} {n cap B : Nat} (h : SBox w g gen bl cl re nx a n cap) (hb : Below B w w') (hg : g < B) : SBox w' g gen bl cl re nx a n cap := (hb.block g hg).trans h
theorem SBox.cells {w : World} {g : Nat} {gen bl cl re nx : Int} {a : Option Addr} {n cap : Nat} (h : SBox w g gen bl cl re nx a n cap) :
    w.cell? ⟨g, 0, none⟩ = some (.int .i64 gen) ∧ w.cell? ⟨g, 1, none⟩ = some (.int .i64 bl) ∧ w.cell? ⟨g, 2, none⟩ = some (.int .i64 cl) ∧ w.cell? ⟨g, 3, none⟩ = some (.int .i64 re) ∧ w.cell? ⟨g, 4, none⟩ = some (.int .i64 nx) ∧ w.cell? ⟨g, 5, none⟩ = some (.slice a n cap) := by
  unfold SBox sBox at h
  simp [World.cell?, h]

/-- a variable that holds a root -/
def rtBox (x : RT) : Obj := .cells #[.int .i64 x.id, .int .i64 x.root, .int .i64 x.height, .int .i64 x.items] 50
/-- what a call of Check leaves -/
def Checked (s : SP) (w : World) (e : Ending) (w' : World) : Prop := e = .returned (.int .i64 (scheck s : Int)) ∧ Below w.heap.size w w'
def idAt (rs : List RT) (i : Nat) : Int := if i = 0 then 0 else (rs.getD (i - 1) ⟨0, 0, 0, 0⟩).id
theorem idAt_ok {nx : Int} {rs : List RT} {k : Nat} (hk : k ≤ rs.length) (hx : 1 ≤ nx ∧ nx ≤ 2147483648) (h : ∀ j, j < k → OrdAt nx rs j) : 0 ≤ idAt rs k ∧ idAt rs k ≤ 2147483647 := by
  have hid : ∀ j, j < k → 1 ≤ (rs.getD j ⟨0, 0, 0, 0⟩).id := by
    intro j
    induction j with
    | zero => intro hj; have := (h 0 hj).1; rw [if_pos rfl] at this; omega
    | succ j ih =>
      intro hj
      have := (h (j + 1) hj).1
      rw [if_neg (by omega), Nat.add_sub_cancel] at this
      have := ih (by omega)
      omega
  unfold idAt
  split
  · omega
  · have h1 := (h (k - 1) (by omega)).2
    have h2 := hid (k - 1) (by omega)
    omega
theorem ordAt_iff {nx : Int} {rs : List RT} {k : Nat} {x : RT} (hx : rs[k]? = some x) : OrdAt nx rs k ↔ idAt rs k + 1 ≤ x.id ∧ x.id ≤ nx - 1 := by
  unfold OrdAt idAt
  rw [show rs.getD k ⟨0, 0, 0, 0⟩ = x by rw [List.getD_eq_getElem?_getD, hx]; rfl]
def RelC1 (W : World) (s : SP) (v i : Value) (wr : World) : Prop := ∃ k : Nat, k ≤ s.roots.length ∧ i = .int .i64 k ∧ v = .int .i64 (idAt s.roots k) ∧ (∀ j, j < k → OrdAt s.next s.roots j) ∧ Below W.heap.size W wr
def RelC2 (W : World) (s : SP) (i : Value) (wr : World) : Prop := ∃ k : Nat, k ≤ s.roots.length ∧ i = .int .i64 k ∧ (∀ j, j < k → CanT s.cf.pages (s.roots.getD j ⟨0, 0, 0, 0⟩)) ∧ Below W.heap.size W wr

set_option maxHeartbeats 1000000 in
theorem check_any (s : SP) (a : Option Addr) (cap : Nat) (w : World) (B : Nat) (hB : B ≤ w.heap.size) (hs : SpAt B w s a cap) :
    Calls Try.prog 28 #[spv s a cap] w (Checked s w) := by
  have Hs := Lib.hid hs
  have HP := Lib.hid (plan_any s.cf hs.b hs.c hs.r)
  obtain ⟨gen, ⟨bl, cl, re⟩, nx, rs⟩ := s
  unfold spv
  simp only at HP ⊢
  by_cases hm : MayC ⟨bl, cl, re⟩
  · rw [planned, if_pos hm] at HP
    unfold planV at HP
    generalize hPg : CF.pages ⟨bl, cl, re⟩ = P at HP
    obtain ⟨bn, hbn⟩ : ∃ b, bankN P = b := ⟨_, rfl⟩
    have hPl : P ≤ 65536 := by
      have := pagesN_le bl.toNat
      have := hm.1
      rw [← hPg]; unfold CF.pages; simp only at *; omega
    rw [hbn] at HP
    have hlen := hs.len
    simp only at hlen
    obtain ⟨n, hnl⟩ : ∃ n, rs.length = n := ⟨_, rfl⟩
    have Hnl := Lib.hid hnl
    rw [hnl] at hlen ⊢
    have HK : ∀ w1, Below (w.alloc (sBox gen bl cl re nx a n cap)).heap.size (w.alloc (sBox gen bl cl re nx a n cap)) w1 → ∀ o, SBox (w1.alloc o) w.heap.size gen bl cl re nx a n cap := fun w1 hb o =>
      SBox.kept (w := w.alloc (sBox gen bl cl re nx a n cap)) (heap_alloc_new w _) (hb.alloc hb.size o) (by simp)
    have HK := Lib.hid HK
    unfold sBox at HK
    by_cases hn : NumOk ⟨gen, ⟨bl, cl, re⟩, nx, rs⟩
    · have hn2 := hn
      unfold NumOk at hn
      simp only at hn
      rw [hnl] at hn
      obtain ⟨⟨hg1, hg2⟩, ⟨hx1, hx2⟩, hnc⟩ := hn
      have hclen : n ≤ 16 := by have := hm.2.1.2; simp only at this; omega
      have Hm := Lib.hid hm
      have Hn2 := Lib.hid hn2
      have Hpg := Lib.hid hPg
      clear hm hs hPg hbn hnl hn2
      go_enter Try.func28, Try.ntmps28
      go_wp2_with fail
      refine (HP.out _).mono ?_
      rintro _ w1 ⟨rfl, hb1⟩
      obtain ⟨z0, z1, z2, z3, z4, z5⟩ := (HK.out w1 hb1 (.cells #[.int .i64 P, .int .i64 bn, .int .i64 (2 + 2 * (bn : Int))] 26)).cells
      have hp1 := heap_alloc_new w1 (.cells #[.int .i64 P, .int .i64 bn, .int .i64 (2 + 2 * (bn : Int))] 26)
      have hB1 := ((one_below w _).trans (hb1.mono (by simp))).alloc (((one_below w _).trans (hb1.mono (by simp))).size) (.cells #[.int .i64 P, .int .i64 bn, .int .i64 (2 + 2 * (bn : Int))] 26)
      have hS1 := HK.out w1 hb1 (.cells #[.int .i64 P, .int .i64 bn, .int .i64 (2 + 2 * (bn : Int))] 26)
      have hz1 : w.heap.size < w1.heap.size := Nat.lt_of_lt_of_le (by simp) hb1.size
      have hz2 : w1.heap.size < (w1.alloc (.cells #[.int .i64 P, .int .i64 bn, .int .i64 (2 + 2 * (bn : Int))] 26)).heap.size := by simp
      have Hp1 := Lib.hid hp1
      have HB1 := Lib.hid hB1
      have HS1 := Lib.hid hS1
      clear hp1 hB1 hS1 hb1
      go_wp2_with (go_at_call 62; refine (in_any _ _ _ _ (by first | exact Hs.out.g | exact Hs.out.n)).mono ?_; rintro _ _ ⟨rfl, rfl⟩)
      all_goals try (exfalso; omega)
      all_goals
        clear z0 z1 z2 z3 z4 z5
        generalize w1.alloc (.cells #[.int .i64 P, .int .i64 bn, .int .i64 (2 + 2 * (bn : Int))] 26) = W2 at *
        go_loopw [5, 41] (fun v i wr => RelC1 W2 ⟨gen, ⟨bl, cl, re⟩, nx, rs⟩ v i wr) (fun _ i _ => n - (intOf i).toNat)
        case atStart => exact ⟨0, Nat.zero_le _, rfl, rfl, fun j hj => by omega, Below.refl _ _⟩
        case round =>
          obtain ⟨k, hk, rfl, rfl, hO, hBw⟩ := hrel
          have hid := idAt_ok hk ⟨hx1, hx2⟩ hO
          simp only at hk hid hO ⊢
          rw [Hnl.out] at hk
          by_cases hlt : k < n
          · obtain ⟨x, hxk⟩ : ∃ x, rs[k]? = some x := ⟨_, List.getElem?_eq_getElem (by rw [Hnl.out]; exact hlt)⟩
            have hBr : Below B w wr := (HB1.out.trans (hBw.mono HB1.out.size)).mono hB
            obtain ⟨b, off, rfl, hb, ⟨c0, c1, c2, c3⟩⟩ := (Hs.out.rts.below hBr).at hxk
            obtain ⟨y0, y1, y2, y3, y4, y5⟩ := (HS1.out.kept (hBw.alloc hBw.size (rtBox x)) (by omega)).cells
            have HBx := Lib.hid (hBw.alloc hBw.size (rtBox x))
            have hxo := Hs.out.rok x (List.mem_of_getElem? hxk)
            have HO := Lib.hid hO
            have HBw := Lib.hid hBw
            have Hxk := Lib.hid hxk
            have Hio := Lib.hid (ordAt_iff (nx := nx) hxk)
            have Hxo := Lib.hid hxo
            have hszw : W2.heap.size ≤ wr.heap.size := hBw.size
            generalize hab : idAt rs k = ab at hid Hio ⊢
            have HNX : idAt rs (k + 1) = x.id := by unfold idAt; rw [if_neg (by omega), Nat.add_sub_cancel, List.getD_eq_getElem?_getD, hxk]; rfl
            have HNX := Lib.hid HNX
            obtain ⟨id, ro, he, it⟩ := x
            simp only [rtBox] at c0 c1 c2 c3 Hio HNX y0 y1 y2 y3 y4 y5 HBx
            clear hO hBw hxk hBr hxo hab
            by_cases hd : ab + 1 ≤ id ∧ id ≤ nx - 1
            · have hdd : decide (ab + 1 ≤ id ∧ id ≤ nx - 1) = true := by simpa using hd
              go_wp2_with (go_at_call 62; refine (in_any _ _ _ _ Hxo.out.1).mono ?_; rintro _ _ ⟨rfl, rfl⟩)
              go_roundw
              case rel =>
                refine ⟨k + 1, by simp only; rw [Hnl.out]; omega, by go_num, by rw [HNX.out], fun j hj => ?_, HBx.out⟩
                rcases Nat.lt_succ_iff_lt_or_eq.1 hj with h | rfl
                · exact HO.out j h
                · exact Hio.out.2 hd
              case measure => simp [intOf]; omega
            · have hdd : decide (ab + 1 ≤ id ∧ id ≤ nx - 1) = false := by simpa using hd
              have HC := Lib.hid (show scheck ⟨gen, ⟨bl, cl, re⟩, nx, rs⟩ = 11 by
                rw [scheck, if_neg (by simpa using Hm.out), if_neg (by simpa using Hn2.out), if_pos]
                intro h
                exact hd (Hio.out.1 (h k (by simp only; rw [Hnl.out]; exact hlt))))
              go_wp2_with (go_at_call 62; refine (in_any _ _ _ _ Hxo.out.1).mono ?_; rintro _ _ ⟨rfl, rfl⟩)
              go_ret
              exact ⟨by rw [HC.out]; rfl, HB1.out.trans (HBx.out.mono HB1.out.size)⟩
          · have hO2 : ∀ j, j < n → OrdAt nx rs j := fun j hj => hO j (by omega)
            have HO1 := Lib.hid hO2
            have HBw := Lib.hid hBw
            obtain ⟨y0, y1, y2, y3, y4, y5⟩ := (HS1.out.kept hBw (by omega)).cells
            clear hO hO2 hBw
            go_wp2_with fail
            go_loopw [60] (fun i wr => RelC2 W2 ⟨gen, ⟨bl, cl, re⟩, nx, rs⟩ i wr) (fun i _ => n - (intOf i).toNat)
            case atStart => exact ⟨0, Nat.zero_le _, rfl, fun j hj => by omega, HBw.out⟩
            case round =>
              clear y0 y1 y2 y3 y4 y5 HBw
              obtain ⟨k, hk, rfl, hO, hBw⟩ := hrel
              simp only at hk hO ⊢
              rw [Hnl.out] at hk
              by_cases hlt : k < n
              · obtain ⟨x, hxk⟩ : ∃ x, rs[k]? = some x := ⟨_, List.getElem?_eq_getElem (by rw [Hnl.out]; exact hlt)⟩
                have hBr : Below B w wr := (HB1.out.trans (hBw.mono HB1.out.size)).mono hB
                obtain ⟨b, off, rfl, hb, ⟨c0, c1, c2, c3⟩⟩ := (Hs.out.rts.below hBr).at hxk
                obtain ⟨p0, p1, p2, -⟩ := cells3 (box_kept Hp1.out (hBw.alloc hBw.size (rtBox x)) hz2)
                have HBx := Lib.hid (hBw.alloc hBw.size (rtBox x))
                have hxo := Hs.out.rok x (List.mem_of_getElem? hxk)
                have HCan := Lib.hid (can_any P bn (2 + 2 * (bn : Int)) (by omega) x hxo)
                have hxd : rs.getD k ⟨0, 0, 0, 0⟩ = x := by rw [List.getD_eq_getElem?_getD, hxk]; rfl
                have HO := Lib.hid hO
                have Hxd := Lib.hid hxd
                have hszw : W2.heap.size ≤ wr.heap.size := hBw.size
                obtain ⟨id, ro, he, it⟩ := x
                simp only [rtBox, trv] at c0 c1 c2 c3 HBx HCan p0 p1 p2
                clear hO hBw hxk hBr hxo hxd
                by_cases hd : CanT P ⟨id, ro, he, it⟩
                · have hdd : decide (CanT P ⟨id, ro, he, it⟩) = true := by simpa using hd
                  rw [hdd] at HCan
                  go_wp2_with (go_at_call 63; refine (HCan.out _).mono ?_; rintro _ w3 ⟨rfl, hb3⟩)
                  go_roundw
                  case rel =>
                    refine ⟨k + 1, by simp only; rw [Hnl.out]; omega, by go_num, fun j hj => ?_, HBx.out.trans (hb3.mono HBx.out.size)⟩
                    rcases Nat.lt_succ_iff_lt_or_eq.1 hj with h | rfl
                    · exact HO.out j h
                    · rw [Hpg.out, Hxd.out]; exact hd
                  case measure => simp [intOf]; omega
                · have hdd : decide (CanT P ⟨id, ro, he, it⟩) = false := by simpa using hd
                  rw [hdd] at HCan
                  have HC := Lib.hid (show scheck ⟨gen, ⟨bl, cl, re⟩, nx, rs⟩ = 5 by
                    rw [scheck, if_neg (by simpa using Hm.out), if_neg (by simpa using Hn2.out), if_neg, if_pos]
                    · intro h
                      have := h k (by simp only; rw [Hnl.out]; exact hlt)
                      rw [Hpg.out, Hxd.out] at this
                      exact hd this
                    · intro h
                      exact h fun i hi => HO1.out i (by simp only at hi; rw [Hnl.out] at hi; exact hi))
                  go_wp2_with (go_at_call 63; refine (HCan.out _).mono ?_; rintro _ w3 ⟨rfl, hb3⟩)
                  go_ret
                  exact ⟨by rw [HC.out]; rfl, HB1.out.trans ((HBx.out.trans (hb3.mono HBx.out.size)).mono HB1.out.size)⟩
              · have HC := Lib.hid (show scheck ⟨gen, ⟨bl, cl, re⟩, nx, rs⟩ = 0 by
                  refine scheck_ok.2 ⟨Hm.out, Hn2.out, fun i hi => HO1.out i (by simp only at hi; rw [Hnl.out] at hi; exact hi), fun i hi => hO i (by simp only at hi; rw [Hnl.out] at hi; omega)⟩)
                have HBw := Lib.hid hBw
                clear hO hBw
                go_wp2_with fail
                go_ret
                exact ⟨by rw [HC.out]; rfl, HB1.out.trans (HBw.out.mono HB1.out.size)⟩
    · have HC := Lib.hid (show scheck ⟨gen, ⟨bl, cl, re⟩, nx, rs⟩ = 4 by rw [scheck, if_neg (by simpa using hm), if_pos hn])
      unfold NumOk at hn
      simp only at hn
      rw [hnl] at hn
      clear hm hs hPg hbn hnl
      go_enter Try.func28, Try.ntmps28
      go_wp2_with fail
      refine (HP.out _).mono ?_
      rintro _ w1 ⟨rfl, hb1⟩
      obtain ⟨z0, z1, z2, z3, z4, z5⟩ := (HK.out w1 hb1 (.cells #[.int .i64 P, .int .i64 bn, .int .i64 (2 + 2 * (bn : Int))] 26)).cells
      have Hb1 := Lib.hid hb1
      clear hb1
      go_wp2_with (go_at_call 62; refine (in_any _ _ _ _ (by first | exact Hs.out.g | exact Hs.out.n)).mono ?_; rintro _ _ ⟨rfl, rfl⟩)
      all_goals try (exfalso; omega)
      all_goals
        go_ret
        refine ⟨by rw [HC.out]; rfl, ?_⟩
        exact ((one_below w _).trans (Hb1.out.mono (by simp))).alloc (((one_below w _).trans (Hb1.out.mono (by simp))).size) _
  · rw [planned, if_neg hm] at HP
    have HC := Lib.hid (show scheck ⟨gen, ⟨bl, cl, re⟩, nx, rs⟩ = 1 by rw [scheck, if_pos hm])
    clear hm hs
    go_enter Try.func28, Try.ntmps28
    go_wp2_with fail
    refine (HP.out _).mono ?_
    rintro _ w1 ⟨rfl, hb1⟩
    unfold plan0
    go_wp2_with fail
    go_ret
    refine ⟨by rw [HC.out]; rfl, ?_⟩
    exact ((one_below w _).trans (hb1.mono (by simp))).alloc (((one_below w _).trans (hb1.mono (by simp))).size) _
end Go.Proofs.Ythkopgmkdenebaa

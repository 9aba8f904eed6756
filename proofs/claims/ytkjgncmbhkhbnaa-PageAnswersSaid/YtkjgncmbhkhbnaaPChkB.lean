/- The program's Check: blob. -/
import Derived.Test.YtkjgncmbhkhbnaaPChk
import Derived.Deep.Cut
import Derived.Deep.CutRange
namespace Go.Proofs.Ytkjgncmbhkhbnaa
open Go.RowKit
set_option linter.unusedVariables false

set_option maxHeartbeats 4000000 in
set_option maxRecDepth 20000 in
theorem pCheck_blob (level : Int) (items : List PI) (data : List UInt8) (next : Int) (ia : Option Addr) (ic : Nat) (da : Option Addr) (dc : Nat) (w : World) (hp : PgAt w.heap.size w ⟨3, level, items, data, next⟩ ia ic da dc) (hf : okForm 3 level items.length data.length next = true) :
    Calls Try.prog 26 #[.agg #[.int .i64 3, .int .i64 level, .slice ia items.length ic, .slice da data.length dc, .int .i64 next]] w (Checked ⟨3, level, items, data, next⟩ w) := by
  have hmf : ∀ (fn : Fn) (first cap : Array Value) (w : World), (Instr.makeFunc fn first cap).run Try.prog w = .ok (.func fn first cap) w := fun _ _ _ _ => rfl
  have HP := Lib.hid hp
  have HCk := Lib.hid (Ck.start w ⟨3, level, items, data, next⟩ ia ic da dc)
  have HF := Lib.hid fun w => pForm_any ⟨3, level, items, data, next⟩ ia ic da dc w
  have HR := Lib.hid (pcheck_end ⟨3, level, items, data, next⟩ (by show 1 ≤ (3 : Int); decide) (by show (3 : Int) ≤ 3; decide) hf)
  simp only [pgv] at *
  obtain ⟨n, hn⟩ : ∃ n, items.length = n := ⟨_, rfl⟩
  obtain ⟨m, hm⟩ : ∃ m, data.length = m := ⟨_, rfl⟩
  rw [hn, hm] at HCk HF hf ⊢
  have HN := Lib.hid hn
  have HM := Lib.hid hm
  have Hf := Lib.hid hf
  clear hp hn hm hf
  go_enter Try.func26, Try.ntmps26
  go_wp2_with fail
  have hS := HCk.out
  refine (must_any _ _ _ _ _ hS.first).mono ?_
  rintro _ u hmu
  obtain rfl := hmu.1
  replace hS : Ck w ⟨3, level, items, data, next⟩ ia ic da dc 0 u := (hS.must hmu).cast (by simp [latch])
  clear hmu
  obtain ⟨c0, c1, c2, c3, c4⟩ := cells5 hS.box
  go_wp2_with fail
  rw [HN.out, HM.out]
  refine (HF.out _).mono ?_
  rintro _ u2 ⟨⟨bf, rfl, hbf⟩, hB2⟩
  obtain rfl : bf = true := (hbf (by show 1 ≤ (3 : Int); decide) (by show (3 : Int) ≤ 3; decide)).trans Hf.out
  replace hS := hS.below hB2
  clear c0 c1 c2 c3 c4 hB2 hbf
  go_wp2_with fail
  refine (must_any _ _ _ _ _ hS.first).mono ?_
  rintro _ u3 hmu
  obtain rfl := hmu.1
  replace hS := (hS.must hmu).cast (show latch 0 true 5 = 0 by simp [latch])
  clear hmu
  have cf := hS.first.cell
  obtain ⟨c0, c1, c2, c3, c4⟩ := cells5 hS.box
  go_wp2_with fail
  have HS := Lib.hid hS
  clear hS cf c0 c1 c2 c3 c4
  go_loopw [5, 30] (fun above i wr => RelCk w ⟨3, level, items, data, next⟩ ia ic da dc above i wr) (fun _ i _ => n - (intOf i).toNat)
  case atStart => exact ⟨0, Nat.zero_le _, rfl, HS.out, none, 0, [], rfl, ⟨.inl rfl, .inl rfl, by simp, fun _ => rfl⟩, fun h => absurd h (by omega)⟩
  case round =>
    obtain ⟨j, hj, rfl, hS, ka0, kc0, ks, rfl, hks, hab⟩ := hrel
    have hj : j ≤ n := by rw [← HN.out]; exact hj
    have HKS := Lib.hid hks
    have HAB := Lib.hid hab
    clear HS hks hab
    by_cases hjn : j < n
    · exact absurd hjn (by have h := Hf.out; simp [okForm] at h; omega)
    · obtain rfl : j = n := by omega
      have hl : ¬ j < items.length := by rw [HN.out]; omega
      obtain ⟨c0, c1, c2, c3, c4⟩ := cells5 hS.box
      have HE := Lib.hid (show pcheck ⟨3, level, items, data, next⟩ = latch (firstBad (itErr 3 items) j) (next == 0 || isPg next) 15 by rw [HR.out, HN.out])
      clear hj HR
      go_wp2_with (first
        | (go_at_call 39; refine (must_any _ _ _ _ _ hS.first).mono ?_; rintro _ u hmu; obtain rfl := hmu.1; replace hS := hS.must hmu; clear hmu; have cf := hS.first.cell)
        | (go_at_call 42; refine (pIsPage_any _ _).mono ?_; rintro _ _ ⟨rfl, rfl⟩))
      all_goals
        go_ret
        refine ⟨ret_i64 ?_, hS.bel⟩
        rw [HE.out] <;> (clear HE hS; first | rfl | (simp; done) | grind)
end Go.Proofs.Ytkjgncmbhkhbnaa

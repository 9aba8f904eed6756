/- Turned bits of a block that is taken are told: the plain law; and the argument Turn. -/
import Derived.Test.YtkjgncmbhkhbnaaPFixW
import Derived.Test.YtkjgncmbhkhbnaaSpare
namespace Go.Proofs.Ytkjgncmbhkhbnaa
open Go.ChangeShapes Go.WideShapes Go.ChangeAt Go.RowKit
set_option linter.unusedVariables false

theorem pgv_rowT (p : PP) (ia : Option Addr) (ic : Nat) (da : Option Addr) (dc : Nat) : pgv p ia ic da dc = .agg #[.int .i64 p.kind, .int .i64 p.level, .slice ia p.items.length ic, .slice da p.data.length dc, .int .i64 p.next] := rfl
theorem le_unle (l : List UInt8) : Crc.le l = unle l := by
  induction l with
  | nil => rfl
  | cons b t ih => rw [Crc.le_cons, unle, ih]
theorem on_sum {b : List UInt8} (hl : b.length = 512) (hs : unle (b.drop 508) = Crc.ofs (b.take 508)) : Crc.on 4294967295 b = Crc.stps 32 4294967295 := by
  have e : b = b.take 508 ++ b.drop 508 := (List.take_append_drop 508 b).symm
  have h4 : (b.drop 508).length = 4 := by rw [List.length_drop]; omega
  have h : Crc.on 4294967295 b = Crc.on (Crc.on 4294967295 (b.take 508)) (b.drop 508) := by
    rw [← Crc.on_append, ← e]
  rw [h, Crc.on_le, h4, le_unle, hs, Crc.ofs, Crc.no_eq, Nat.xor_comm 4294967295, ← Nat.xor_assoc, Nat.xor_self, Nat.zero_xor]
theorem pdec_sum {no : Int} {bs : List UInt8} {p : PP} {gen : Nat} (h : pdec no bs = (0, p, gen)) : isPg no = true ∧ bs.length = 512 ∧ unle (bs.drop 508) = Crc.ofs (bs.take 508) := by
  unfold pdec at h
  repeat' split at h
  all_goals first
    | (cases h; done)
    | skip
  rename_i h1 h2 h3 _ _
  exact ⟨by simpa using h1, Decidable.not_not.1 h2, Decidable.not_not.1 h3⟩
theorem pdec_turned {no : Int} {bs cs : List UInt8} {p : PP} {gen m f : Nat} (h : pdec no bs = (0, p, gen)) (hl : cs.length = bs.length) (hm : m < 4294967296) (h0 : m ≠ 0) (hf : f < 8 * bs.length) (hle : Crc.le cs = Crc.le bs ^^^ (m * 2 ^ f)) : pdec no cs = (6, zeroP, 0) := by
  obtain ⟨h1, h2, h3⟩ := pdec_sum h
  unfold pdec
  rw [if_neg (by simp [h1]), if_neg (by rw [hl, h2]; simp), if_pos]
  intro hc
  have hne := Crc.tells hm h0 hl hf hle
  apply hne
  unfold Crc.ofs
  rw [on_sum h2 h3, on_sum (hl.trans h2) hc]
theorem bit_of (t : Nat) : ∃ x : UInt8, x.toNat = 2 ^ (t % 8) := by
  have h : t % 8 < 8 := by omega
  refine ⟨UInt8.ofNat (2 ^ (t % 8)), ?_⟩
  have : 2 ^ (t % 8) < 2 ^ 8 := Nat.pow_lt_pow_right (by omega) h
  rw [UInt8.toNat_ofNat', Nat.mod_eq_of_lt this]
theorem pow8_mod {k : Nat} (hk : k < 8) : (2 : Int) ^ k % 256 = ((2 ^ k : Nat) : Int) := by
  have hp : 2 ^ k < 256 := Nat.pow_lt_pow_right (a := 2) (m := k) (n := 8) (by omega) hk
  have e : ((2 ^ k : Nat) : Int) = (2 : Int) ^ k := Int.natCast_pow 2 k
  rw [← e]
  generalize 2 ^ k = y at hp
  omega
theorem cellsTurn : Try.prog.cellsOf 58 = 2 := by kernel_rfl
set_option maxRecDepth 100000 in
theorem open_turn {H : Type} {enc : TypeId × Value → H} {W : World} {b : Nat} {v : Value} {d : DataW H} {q : List MemPlace} (hv : Value.okWide Try.prog W .any b 58 v)
    (h : DataW.Trod enc Try.prog W 0 (fun _ => true) true 58 v d q) :
    ∃ v0 v1 : Int, v = .agg #[.int .i64 v0, .int .u32 v1] ∧ (Lit.int .i64 v0).wf = true ∧ (Lit.int .u32 v1).wf = true := by
  obtain ⟨cs, rfl, hsz⟩ := okWide_struct Try.underlying58 hv
  obtain ⟨l⟩ := cs
  obtain ⟨fuel, hf⟩ := h
  match l, hsz.trans cellsTurn with
  | [c0, c1], _ =>
    have hf' : Rd enc Try.prog W fuel 58 [c0, c1] = some (d, q) := hf
    obtain ⟨m2, _, hfl⟩ := rd_fields Try.underlying58 hf'
    obtain ⟨y0, r0, _⟩ := hfl 0 _ rfl
    obtain ⟨y1, r1, _⟩ := hfl 1 _ rfl
    obtain ⟨v0, rfl, k0⟩ := rd_int (c := c0) Try.underlying3 r0
    obtain ⟨v1, rfl, k1⟩ := rd_int (c := c1) Try.underlying56 r1
    exact ⟨v0, v1, rfl, k0, k1⟩
end Go.Proofs.Ytkjgncmbhkhbnaa

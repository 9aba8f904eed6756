/- The script of SumAnswers: an argument that is a list of calls; what a call is answered. -/
import Derived.Test.YtdonocchidfooaaDeep
import Derived.Test.YtdonocchidfooaaRefC
namespace Go.Proofs.Ytdonocchidfooaa
open Go.ChangeShapes Go.WideShapes Go.ChangeAt Go.RowKit

structure Op1 where
  (kind n : Int) (s t : Nat) (a : Option Addr) (cap : Nat) (bs : List UInt8)
def Op1.val (o : Op1) : Value := .agg #[.int .i64 o.kind, .int .u32 o.s, .int .u32 o.t, .int .i64 o.n, .slice o.a o.bs.length o.cap]
def Op1.fits (o : Op1) : Prop := o.s < 4294967296 ∧ o.t < 4294967296 ∧ (-9223372036854775808 ≤ o.n ∧ o.n ≤ 9223372036854775807) ∧ o.bs.length ≤ 140737488351232 ∧ (-9223372036854775808 ≤ o.kind ∧ o.kind ≤ 9223372036854775807)
/-- what a call is answered, over some bytes -/
def Op1.ans (o : Op1) (bs : List UInt8) : Nat := if o.kind = 0 then Crc.ofs bs else if o.kind = 1 then Crc.mor o.s bs else if o.kind = 2 then Crc.joi o.s o.t o.n.toNat else Crc.zer o.n.toNat
/-- the cells of a call in memory -/
def Op1.lies (o : Op1) (w : World) (b off : Nat) : Prop :=
  w.cell? ⟨b, off, none⟩ = some (.int .i64 o.kind) ∧ w.cell? ⟨b, off + 1, none⟩ = some (.int .u32 o.s) ∧ w.cell? ⟨b, off + 2, none⟩ = some (.int .u32 o.t) ∧ w.cell? ⟨b, off + 3, none⟩ = some (.int .i64 o.n) ∧ w.cell? ⟨b, off + 4, none⟩ = some (.slice o.a o.bs.length o.cap)

/-- a list of calls that came in -/
def IsOps (w : World) (a : Option Addr) (len : Nat) : Prop := len = 0 ∨ ∃ b off, a = some ⟨b, off, none⟩ ∧ b < w.heap.size ∧ ∀ i, i < len → ∃ o : Op1, o.fits ∧ o.lies w b (off + i * 5) ∧ Bts w o.a o.bs

theorem cells27 : Try.prog.cellsOf 27 = 5 := by kernel_rfl

theorem open_ops {H : Type} {enc : TypeId × Value → H} {W : World} {a : Option Addr} {len cap : Nat} {d : DataW H} {p : List MemPlace}
    (h : DataW.Trod enc Try.prog W 0 (fun _ => true) true 22 (Value.slice a len cap) d p) (hz : ∀ q ∈ DataW.weights Try.prog 22 d, q ≤ reachBytes) : IsOps W a len ∧ len ≤ cap ∧ cap ≤ 9223372036854775807 := by
  obtain ⟨n, hf⟩ := h
  have hf' : Rd enc Try.prog W n 22 [Value.slice a len cap] = some (d, p) := hf
  rcases rd_elems Try.underlying22 hf' with h0 | ⟨x, l, c, m, hc, hl, hm, _, hel⟩
  · simp only [Value.slice.injEq] at h0
    obtain ⟨rfl, rfl, rfl⟩ := h0
    exact ⟨.inl rfl, by omega, by omega⟩
  · simp only [Value.slice.injEq] at hc
    obtain ⟨rfl, rfl, rfl⟩ := hc
    refine ⟨?_, hl, by unfold maxLen at hm; omega⟩
    by_cases h0 : len = 0
    · exact .inl h0
    obtain ⟨b, off, spot⟩ := x
    have hcell : ∀ i, i < cap → ∃ o : Op1, o.fits ∧ Bts W o.a o.bs ∧ W.cell? ((⟨b, off, spot⟩ : Addr).add (i * 5 + 0)) = some (.int .i64 o.kind) ∧ W.cell? ((⟨b, off, spot⟩ : Addr).add (i * 5 + 1)) = some (.int .u32 o.s) ∧ W.cell? ((⟨b, off, spot⟩ : Addr).add (i * 5 + 2)) = some (.int .u32 o.t) ∧ W.cell? ((⟨b, off, spot⟩ : Addr).add (i * 5 + 3)) = some (.int .i64 o.n) ∧ W.cell? ((⟨b, off, spot⟩ : Addr).add (i * 5 + 4)) = some (.slice o.a o.bs.length o.cap) := by
      intro i hi
      obtain ⟨cs, y, hcl, hat, hrd, hw⟩ := hel i hi
      rw [cells27] at hcl hat
      obtain ⟨m2, _, hfl⟩ := rd_fields Try.underlying27 hrd
      match cs, hcl with
      | [c0, c1, c2, c3, c4], _ =>
        obtain ⟨y0, r0, _⟩ := hfl 0 _ rfl
        obtain ⟨y1, r1, _⟩ := hfl 1 _ rfl
        obtain ⟨y2, r2, _⟩ := hfl 2 _ rfl
        obtain ⟨y3, r3, _⟩ := hfl 3 _ rfl
        obtain ⟨y4, r4, w4⟩ := hfl 4 _ rfl
        obtain ⟨v0, rfl, k0⟩ := rd_int (c := c0) Try.underlying3 r0
        obtain ⟨v1, rfl, k1⟩ := rd_int (c := c1) Try.underlying24 r1
        obtain ⟨v2, rfl, k2⟩ := rd_int (c := c2) Try.underlying24 r2
        obtain ⟨v3, rfl, k3⟩ := rd_int (c := c3) Try.underlying3 r3
        obtain ⟨a4, l4, cap4, z4, rfl, row4, s4⟩ := rd_bytes (c := c4) r4 (fun q hq => hz q (hw q (w4 q hq)))
        obtain ⟨n1, rfl, q1⟩ := u32_nat k1
        obtain ⟨n2, rfl, q2⟩ := u32_nat k2
        have hlc := row4.len_cap
        obtain ⟨bs, rfl, hb⟩ := row4.bts
        exact ⟨⟨v0, v3, n1, n2, a4, cap4, bs⟩, ⟨q1, q2, i64_le k3, by show bs.length ≤ _; omega, i64_le k0⟩, hb, hat 0 (by omega), hat 1 (by omega), hat 2 (by omega), hat 3 (by omega), hat 4 (by omega)⟩
    obtain ⟨o0, _, _, e0, _⟩ := hcell 0 (by omega)
    have hspot : spot = none := by simpa [Addr.add] using World.cell?_spot e0
    subst hspot
    rw [add_none] at e0
    refine .inr ⟨b, off, rfl, block_lt_of_cell e0, fun i hi => ?_⟩
    obtain ⟨o, hf, hb, h0, h1, h2, h3, h4⟩ := hcell i (by omega)
    rw [add_none] at h0 h1 h2 h3 h4
    exact ⟨o, hf, ⟨h0, by rw [Nat.add_assoc]; exact h1, by rw [Nat.add_assoc]; exact h2, by rw [Nat.add_assoc]; exact h3, by rw [Nat.add_assoc]; exact h4⟩, hb⟩

theorem op_cells {W : World} {B : Nat} {v0 v1 v2 v3 v4 : Value} {t : TypeId} {fr : Nat × Nat} (h : W.heap[B]? = some (.cells #[v0, v1, v2, v3, v4] t fr)) :
    W.cell? ⟨B, 0, none⟩ = some v0 ∧ W.cell? ⟨B, 1, none⟩ = some v1 ∧ W.cell? ⟨B, 2, none⟩ = some v2 ∧ W.cell? ⟨B, 3, none⟩ = some v3 ∧ W.cell? ⟨B, 4, none⟩ = some v4 := by
  simp [World.cell?, h]

set_option maxHeartbeats 800000 in
theorem asked_any (o : Op1) (ho : o.fits) (bs : List UInt8) (a : Option Addr) (cap : Nat) (hl : bs.length ≤ 9223372036854775807) (w : World) (hb : Bts w a bs) :
    Calls Try.prog 16 #[o.val, .slice a bs.length cap] w fun e w' => e = .returned (.int .u32 (o.ans bs)) ∧ Below w.heap.size w w' := by
  obtain ⟨kind, n, s, t, a0, cap0, bs0⟩ := o
  obtain ⟨hs, ht, ⟨_, hn⟩, _, _⟩ := ho
  simp only [Op1.val] at *
  have b0 := (Below.refl w.heap.size w).alloc (Nat.le_refl _) (.cells #[.int .i64 kind, .int .u32 s, .int .u32 t, .int .i64 n, .slice a0 bs0.length cap0] 27)
  have hg := Lib.hid (heap_alloc_new w (.cells #[.int .i64 kind, .int .u32 s, .int .u32 t, .int .i64 n, .slice a0 bs0.length cap0] 27))
  have hb1 := hb.below b0
  by_cases k0 : kind = 0
  · subst k0
    have H := Lib.hid fun (w : World) (h : Bts w a bs) => sumOf_any bs a cap hl w h
    have HA := Lib.hid (show Op1.ans ⟨0, n, s, t, a0, cap0, bs0⟩ bs = Crc.ofs bs by simp [Op1.ans])
    go_enter Try.func16, Try.ntmps16
    go_wp2_with fail
    refine (H.out _ hb1).mono ?_
    rintro _ w1 ⟨rfl, b1⟩
    go_wp2_with fail
    go_ret
    exact ⟨ret_int (by rw [HA.out]), b0.trans (b1.mono b0.size)⟩
  have e0 : (kind == 0) = false := by rw [beq_eq_false_iff_ne]; exact k0
  by_cases k1 : kind = 1
  · subst k1
    have H := Lib.hid fun (w : World) (h : Bts w a bs) => sumMore_any s hs bs a cap hl w h
    have HA := Lib.hid (show Op1.ans ⟨1, n, s, t, a0, cap0, bs0⟩ bs = Crc.mor s bs by simp [Op1.ans])
    go_enter Try.func16, Try.ntmps16
    go_wp2_with fail
    refine (H.out _ hb1).mono ?_
    rintro _ w1 ⟨rfl, b1⟩
    go_wp2_with fail
    go_ret
    exact ⟨ret_int (by rw [HA.out]), b0.trans (b1.mono b0.size)⟩
  have e1 : (kind == 1) = false := by rw [beq_eq_false_iff_ne]; exact k1
  by_cases k2 : kind = 2
  · subst k2
    have H := Lib.hid fun (w : World) => sumJoin_any s t hs ht n hn w
    have HA := Lib.hid (show Op1.ans ⟨2, n, s, t, a0, cap0, bs0⟩ bs = Crc.joi s t n.toNat by simp [Op1.ans])
    go_enter Try.func16, Try.ntmps16
    go_wp2_with fail
    refine (H.out _).mono ?_
    rintro _ w1 ⟨rfl, b1⟩
    go_wp2_with fail
    go_ret
    exact ⟨ret_int (by rw [HA.out]), b0.trans (b1.mono b0.size)⟩
  have e2 : (kind == 2) = false := by rw [beq_eq_false_iff_ne]; exact k2
  have H := Lib.hid fun (w : World) => sumZeros_any n hn w
  have HA := Lib.hid (show Op1.ans ⟨kind, n, s, t, a0, cap0, bs0⟩ bs = Crc.zer n.toNat by simp [Op1.ans, k0, k1, k2])
  go_enter Try.func16, Try.ntmps16
  go_wp2_with fail
  refine (H.out _).mono ?_
  rintro _ w1 ⟨rfl, b1⟩
  go_wp2_with fail
  go_ret
  exact ⟨ret_int (by rw [HA.out]), b0.trans (b1.mono b0.size)⟩

theorem refOfB (bs : List UInt8) (a : Option Addr) (cap : Nat) (hb : bs.length ≤ 9223372036854775807) (w : World) (hc : Bts w a bs) : Calls Try.prog 21 #[.slice a bs.length cap] w fun e w' => e = .returned (.int .u32 (Crc.ofs bs)) ∧ Below w.heap.size w w' :=
  (refOf_any bs a cap hb w hc).mono fun _ _ ⟨h1, h2⟩ => ⟨h1, h2 ▸ Below.refl _ _⟩
theorem refMoreB (s : Nat) (hs : s < 4294967296) (bs : List UInt8) (a : Option Addr) (cap : Nat) (hb : bs.length ≤ 9223372036854775807) (w : World) (hc : Bts w a bs) : Calls Try.prog 23 #[.int .u32 s, .slice a bs.length cap] w fun e w' => e = .returned (.int .u32 (Crc.mor s bs)) ∧ Below w.heap.size w w' :=
  (refMore_any s hs bs a cap hb w hc).mono fun _ _ ⟨h1, h2⟩ => ⟨h1, h2 ▸ Below.refl _ _⟩

set_option maxHeartbeats 800000 in
theorem told_any (o : Op1) (ho : o.fits) (bs : List UInt8) (a : Option Addr) (cap : Nat) (hl : bs.length ≤ 9223372036854775807) (w : World) (hb : Bts w a bs) :
    Calls Try.prog 17 #[o.val, .slice a bs.length cap] w fun e w' => e = .returned (.int .u32 (o.ans bs)) ∧ Below w.heap.size w w' := by
  obtain ⟨kind, n, s, t, a0, cap0, bs0⟩ := o
  obtain ⟨hs, ht, ⟨_, hn⟩, _, _⟩ := ho
  simp only [Op1.val] at *
  have b0 := (Below.refl w.heap.size w).alloc (Nat.le_refl _) (.cells #[.int .i64 kind, .int .u32 s, .int .u32 t, .int .i64 n, .slice a0 bs0.length cap0] 27)
  have hg := Lib.hid (heap_alloc_new w (.cells #[.int .i64 kind, .int .u32 s, .int .u32 t, .int .i64 n, .slice a0 bs0.length cap0] 27))
  have hb1 := hb.below b0
  by_cases k0 : kind = 0
  · subst k0
    have H := Lib.hid fun (w : World) (h : Bts w a bs) => refOfB bs a cap hl w h
    have HA := Lib.hid (show Op1.ans ⟨0, n, s, t, a0, cap0, bs0⟩ bs = Crc.ofs bs by simp [Op1.ans])
    go_enter Try.func17, Try.ntmps17
    go_wp2_with fail
    refine (H.out _ hb1).mono ?_
    rintro _ w1 ⟨rfl, b1⟩
    go_wp2_with fail
    go_ret
    exact ⟨ret_int (by rw [HA.out]), b0.trans (b1.mono b0.size)⟩
  have e0 : (kind == 0) = false := by rw [beq_eq_false_iff_ne]; exact k0
  by_cases k1 : kind = 1
  · subst k1
    have H := Lib.hid fun (w : World) (h : Bts w a bs) => refMoreB s hs bs a cap hl w h
    have HA := Lib.hid (show Op1.ans ⟨1, n, s, t, a0, cap0, bs0⟩ bs = Crc.mor s bs by simp [Op1.ans])
    go_enter Try.func17, Try.ntmps17
    go_wp2_with fail
    refine (H.out _ hb1).mono ?_
    rintro _ w1 ⟨rfl, b1⟩
    go_wp2_with fail
    go_ret
    exact ⟨ret_int (by rw [HA.out]), b0.trans (b1.mono b0.size)⟩
  have e1 : (kind == 1) = false := by rw [beq_eq_false_iff_ne]; exact k1
  by_cases k2 : kind = 2
  · subst k2
    have H := Lib.hid fun (w : World) => refJoin_any s t hs ht n hn w
    have HA := Lib.hid (show Op1.ans ⟨2, n, s, t, a0, cap0, bs0⟩ bs = Crc.joi s t n.toNat by simp [Op1.ans])
    go_enter Try.func17, Try.ntmps17
    go_wp2_with fail
    refine (H.out _).mono ?_
    rintro _ w1 ⟨rfl, b1⟩
    go_wp2_with fail
    go_ret
    exact ⟨ret_int (by rw [HA.out]), b0.trans (b1.mono b0.size)⟩
  have e2 : (kind == 2) = false := by rw [beq_eq_false_iff_ne]; exact k2
  have H := Lib.hid fun (w : World) => refZeros_any n hn w
  have HA := Lib.hid (show Op1.ans ⟨kind, n, s, t, a0, cap0, bs0⟩ bs = Crc.zer n.toNat by simp [Op1.ans, k0, k1, k2])
  go_enter Try.func17, Try.ntmps17
  go_wp2_with fail
  refine (H.out _).mono ?_
  rintro _ w1 ⟨rfl, b1⟩
  go_wp2_with fail
  go_ret
  exact ⟨ret_int (by rw [HA.out]), b0.trans (b1.mono b0.size)⟩
end Go.Proofs.Ytdonocchidfooaa

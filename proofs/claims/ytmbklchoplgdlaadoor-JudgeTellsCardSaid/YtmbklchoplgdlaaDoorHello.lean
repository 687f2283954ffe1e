/- Opening a hello that came in. -/
import Derived.Test.YtmbklchoplgdlaaDoorProg
import Derived.Test.YtmbklchoplgdlaaDoorOpen
namespace Go.Proofs.YtmbklchoplgdlaaDoor
open Go.ChangeShapes Go.WideShapes Go.ChangeAt Go.RowKit Go.Deep Go.Joins
theorem array10 {α : Type} {cs : Array α} (h : cs.size = 10) : ∃ c0 c1 c2 c3 c4 c5 c6 c7 c8 c9, cs = #[c0, c1, c2, c3, c4, c5, c6, c7, c8, c9] := by
  obtain ⟨l⟩ := cs
  match l, h with
  | [c0, c1, c2, c3, c4, c5, c6, c7, c8, c9], _ => exact ⟨c0, c1, c2, c3, c4, c5, c6, c7, c8, c9, rfl⟩
section
variable {H : Type} {enc : TypeId × Value → H} {W : World} {base : Nat}
set_option maxRecDepth 100000 in
theorem Tryd.open_hello {v : Value} {d : DataW H} {p : List MemPlace} (hv : Value.okWide Tryd.prog W .any base 71 v) (h : DataW.Trod enc Tryd.prog W 0 (fun _ => true) true 71 v d p) :
    ∃ (a t0 t1 t2 t3 u0 u1 u2 u3 : Int) (s : ByteArray), v = .agg #[.int .i64 a, .int .i64 t0, .int .i64 t1, .int .i64 t2, .int .i64 t3, .int .i64 u0, .int .i64 u1, .int .i64 u2, .int .i64 u3, .string s] ∧ s.size ≤ maxLen := by
  have hs := Tryd.underlying71
  have e1 : Tryd.prog.cellsOf 3 = 1 := by kernel_rfl
  have e2 : Tryd.prog.cellsOf 9 = 1 := by kernel_rfl
  have e3 : Tryd.prog.cellsOf 30 = 4 := by kernel_rfl
  have e4 : Tryd.prog.cellsOf 34 = 4 := by kernel_rfl
  have hC : Tryd.prog.cellsOf 71 = 10 := by kernel_rfl
  obtain ⟨cs, rfl, hsz⟩ := okWide_struct hs hv
  obtain ⟨c0, c1, c2, c3, c4, c5, c6, c7, c8, c9, rfl⟩ := array10 (hsz.trans hC)
  obtain ⟨fuel, hf⟩ := h
  obtain ⟨y0, y1, y2, y3, n, _, _, h0, h1, h2, h3⟩ := trod_struct4 hs hf
  simp only [Value.cells, e1, e2, e3, e4] at h0 h1 h2 h3
  obtain ⟨z0, z1, z2, z3, m, _, _, k0, k1, k2, k3⟩ := trod_struct4 Tryd.underlying30 h1
  obtain ⟨q0, q1, q2, q3, m2, _, _, l0, l1, l2, l3⟩ := trod_struct4 Tryd.underlying34 h2
  simp only [e1] at k0 k1 k2 k3 l0 l1 l2 l3
  obtain ⟨a0, r0, _, _⟩ := DataW.trod_int Tryd.underlying3 h0
  obtain ⟨a1, r1, _, _⟩ := DataW.trod_int Tryd.underlying3 k0
  obtain ⟨a2, r2, _, _⟩ := DataW.trod_int Tryd.underlying3 k1
  obtain ⟨a3, r3, _, _⟩ := DataW.trod_int Tryd.underlying3 k2
  obtain ⟨a4, r4, _, _⟩ := DataW.trod_int Tryd.underlying3 k3
  obtain ⟨a5, r5, _, _⟩ := DataW.trod_int Tryd.underlying3 l0
  obtain ⟨a6, r6, _, _⟩ := DataW.trod_int Tryd.underlying3 l1
  obtain ⟨a7, r7, _, _⟩ := DataW.trod_int Tryd.underlying3 l2
  obtain ⟨a8, r8, _, _⟩ := DataW.trod_int Tryd.underlying3 l3
  obtain ⟨s, r9, _, hw⟩ := DataW.trod_string Tryd.underlying9 h3
  simp at r0 r1 r2 r3 r4 r5 r6 r7 r8 r9
  subst r0; subst r1; subst r2; subst r3; subst r4; subst r5; subst r6; subst r7; subst r8; subst r9
  exact ⟨a0, a1, a2, a3, a4, a5, a6, a7, a8, s, rfl, by simpa using hw⟩
end
end Go.Proofs.YtmbklchoplgdlaaDoor

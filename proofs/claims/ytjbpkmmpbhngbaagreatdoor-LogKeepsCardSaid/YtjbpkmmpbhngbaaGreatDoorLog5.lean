/- log: Crash over a plain state; All, Bytes, Safe. -/
import Derived.Test.YtjbpkmmpbhngbaaGreatDoorLog4
namespace Go.Proofs.YtjbpkmmpbhngbaaGreatDoor
open Go.RowKit Go.Shelf

/-- how many bytes are left behind a crash -/
def LS.left_ (s : LS) (keep : Int) : Int := s.safe + max 0 (min keep ((s.bytes.length : Int) - s.safe))
theorem LS.ok.left_ {s : LS} (h : s.ok) (keep : Int) : 0 ≤ s.left_ keep ∧ s.left_ keep ≤ s.bytes.length := by
  have := h.saf
  unfold LS.left_
  omega
def LS.crash (s : LS) (keep : Int) : LS :=
  let rs := s.rs.take (wholeR (s.left_ keep).toNat s.rs)
  ⟨rs, [], ((catR rs).length : Int), -1, false⟩
theorem okR_take {rs : List Rec} (h : okR [] rs) (k : Nat) : okR [] (rs.take k) := by
  have e : rs = rs.take k ++ rs.drop k := (List.take_append_drop _ _).symm
  rw [e] at h
  exact ((okR_app _ _ _).1 h).1
theorem LS.ok.crash {s : LS} (h : s.ok) (keep : Int) : (s.crash keep).ok := by
  have hl := h.len
  refine ⟨okR_take h.recs _, ?_, by simp [LS.crash], fun _ => rfl, by simp [LS.crash], ?_, by simp [LS.crash]⟩
  · unfold LS.crash
    simp only [List.length_take]
    omega
  · unfold LS.crash LS.bytes
    simp
theorem last_ten (a t : List UInt8) (x : ByteArray) (ht : ∀ c ∈ t, c ≠ 10) (hx : x.data.toList = a ++ t) (ha : a = [] ∨ ∃ i, a = i ++ [10]) : Lib.lastIndexByte x 10 + 1 = (a.length : Int) := by
  have hs : x.size = a.length + t.length := by rw [bytes_size hx]; simp
  have hg : ∀ j (hj : j < x.size), x.data[j]! = (a ++ t)[j]'(by simp; omega) := fun j hj => by
    have h1 : j < x.data.size := hj
    rw [getElem!_pos x.data j h1]
    have : x.data[j] = x.data.toList[j]'(by simpa using h1) := by simp
    rw [this]
    simp only [hx]
  have htl : ∀ j, a.length ≤ j → j < x.size → ((x.data[j]!).toNat : Int) ≠ 10 := fun j h1 h2 h3 => by
    rw [hg j h2, List.getElem_append_right h1] at h3
    have hm : t[j - a.length]'(by omega) ∈ t := List.getElem_mem _
    refine ht _ hm (UInt8.toNat_inj.1 ?_)
    have h4 : (10 : UInt8).toNat = 10 := rfl
    omega
  rcases Lib.lastIndexByte_spec x 10 with ⟨e, hn⟩ | ⟨i, hi, e, hc, hn⟩
  · rcases ha with rfl | ⟨i, rfl⟩
    · rw [e]; rfl
    · exfalso
      have hi : i.length < x.size := by rw [hs]; simp; omega
      refine hn i.length hi ?_
      rw [hg _ hi]
      simp
  · rcases ha with rfl | ⟨k, rfl⟩
    · exact absurd hc (htl i (by simp) hi)
    · rw [e]
      have h1 : ¬ (k ++ [10]).length ≤ i := fun h => htl i h hi hc
      have h2 : ¬ i < k.length := fun h => by
        have hk : k.length < x.size := by rw [hs]; simp; omega
        refine hn k.length h hk ?_
        rw [hg _ hk]
        simp
      simp at h1 ⊢
      omega
theorem cat_end (rs : List Rec) : catR rs = [] ∨ ∃ i, catR rs = i ++ [10] := by
  rcases List.eq_nil_or_concat rs with rfl | ⟨a, r, rfl⟩
  · exact .inl rfl
  · exact .inr ⟨catR a ++ r.ini, by rw [List.concat_eq_append, catR_app]; simp [catR, Rec.row]⟩
set_option maxHeartbeats 4000000 in
theorem lgsCrash {s : LS} (hs : s.ok) (keep : Int) (_ : (Lit.int .i64 keep).wf = true) {b : Nat} {v : Value} (w : World) (htab : SpaW w) (h : LgS w b v s) :
    Calls Tryz.prog 10 #[.pointer (some ⟨b, 0, none⟩), .int .i64 keep] w fun e w' => (∃ r, e = .returned r) ∧ ∃ v', LgS w' b v' (s.crash keep) ∧ vNew w w' v' ∧ Kept [b] w w' := by
  obtain ⟨x, ⟨h1, h2⟩, h3⟩ := h
  have hxs := bytes_size h3
  have hbl := hs.bytes_len
  have hlf := hs.left_ keep
  have hsf := hs.saf
  obtain ⟨t, ht, hcut⟩ := take_cat s.rs (okR_rec _ _ hs.recs) s.tl hs.tail (s.left_ keep).toNat
  obtain ⟨rs, hrs⟩ : ∃ rs, rs = s.rs.take (wholeR (s.left_ keep).toNat s.rs) := ⟨_, rfl⟩
  rw [← hrs] at hcut
  have hcr : s.crash keep = ⟨rs, [], ((catR rs).length : Int), -1, false⟩ := by rw [hrs]; rfl
  have hokr : okR [] rs := by rw [hrs]; exact okR_take hs.recs _
  have hlr : rs.length ≤ 30 := by have := hs.len; rw [hrs, List.length_take]; omega
  obtain ⟨y, hy⟩ : ∃ y, y = x.extract 0 (s.left_ keep).toNat := ⟨_, rfl⟩
  have hyl : y.data.toList = catR rs ++ t := by
    rw [hy]
    simp only [ByteArray.data_extract, Array.toList_extract, List.extract_eq_take_drop, h3]
    simpa [LS.bytes] using hcut
  have hys := bytes_size hyl
  have hy6 : y.size ≤ 651 := by rw [hy]; simp; omega
  obtain ⟨p, hp⟩ : ∃ p : Int, p = ((catR rs).length : Int) - 1 := ⟨_, rfl⟩
  obtain ⟨z, hz⟩ : ∃ z, z = y.extract 0 (p + 1).toNat := ⟨_, rfl⟩
  have hp1 : (p + 1).toNat = (catR rs).length := by omega
  have hzl : z.data.toList = catR rs := by
    rw [hz, hp1]
    simp only [ByteArray.data_extract, Array.toList_extract, List.extract_eq_take_drop, hyl]
    simp
  have hzs := bytes_size hzl
  have hcl : (catR rs).length ≤ 651 := by have := cat_len rs (okR_rec _ _ hokr); omega
  have hLI : ∀ W : World, Calls Tryz.prog 26 #[.string y, .string ⟨#[10]⟩] W fun e w' => e = .returned (.int .i64 p) ∧ W = w' := fun W => by
    have h := Tryz.strings_LastIndex_one y ⟨#[10]⟩ rfl (by omega) W
    have e := last_ten (catR rs) t y ht hyl (cat_end rs)
    have e2 : Lib.lastIndexByte y (((⟨#[10]⟩ : ByteArray)[0]'(by decide)).toNat : Int) = ((catR rs).length : Int) - 1 := by
      have : Lib.lastIndexByte y (((⟨#[10]⟩ : ByteArray)[0]'(by decide)).toNat : Int) = Lib.lastIndexByte y 10 := rfl
      omega
    rw [e2, ← hp] at h
    exact h.mono fun _ _ ⟨h1, h2⟩ => ⟨h1, h2.symm⟩
  have LI := hide hLI
  have RD := hide (fun W (hW : Below w.heap.size w W) => lgRedo hokr hlr z hzl (by omega) W (htab.next hW))
  have HO := hide h1
  have HV := hide h2
  have q1 := ObjAt.cell h1 (i := 1) rfl
  have q3 := ObjAt.cell h1 (i := 3) rfl
  have hlx : s.safe + max 0 (min keep ((x.size : Int) - s.safe)) = s.left_ keep := by rw [hxs]; rfl
  have i0 : 0 ≤ s.safe + max 0 (min keep ((x.size : Int) - s.safe)) := by rw [hlx]; exact hlf.1
  have i1 : s.safe + max 0 (min keep ((x.size : Int) - s.safe)) ≤ x.size := by rw [hlx, hxs]; exact hlf.2
  have f0 := hsf.1
  have f1 : s.safe ≤ (x.size : Int) := by rw [hxs]; exact hsf.2
  have f2 : (x.size : Int) ≤ 651 := by omega
  have p0 : 0 ≤ p + 1 := by omega
  have p1 : p + 1 ≤ (y.size : Int) := by rw [hys, hp]; simp; omega
  have HLX := hide hlx
  have HY := hide hy.symm
  have HZ := hide hz.symm
  have HZL := hide hzl
  have HZS := hide hzs
  have hbl2 := ObjAt.lt h1
  rw [hcr]
  clear h1 h2 h3 hxs hbl hlf hcut hrs hcr hokr hlr hyl hys hzl hLI ht hp hp1 hlx hsf hy hz hzs
  go_enter Tryz.func10, Tryz.ntmps10
  go_wp2
  go_region
  rw [HLX.out, HY.out]
  go_wp2_with fail
  refine (LI.out _).mono ?_
  rintro e w1 ⟨rfl, rfl⟩
  go_wp2_with fail
  rw [HZ.out]
  refine (RD.out _ (Below.refl _ _).drew).mono ?_
  rintro e w2 ⟨v', rfl, hps, hvn, hb2⟩
  have hB2 : Below w.heap.size w w2 := (Below.refl w.heap.size w).drew.trans hb2
  have o2 := ObjAt.below HO.out hB2
  have f0' := ObjAt.free o2 0
  have f1' := ObjAt.free o2 1
  have f2' := ObjAt.free o2 2
  have f3' := ObjAt.free o2 3
  have f4' := ObjAt.free o2 4
  have f5' := ObjAt.free o2 5
  have c0 := ObjAt.cell o2 (i := 0) rfl
  have c1 := ObjAt.cell o2 (i := 1) rfl
  have c2 := ObjAt.cell o2 (i := 2) rfl
  have c3 := ObjAt.cell o2 (i := 3) rfl
  have c4 := ObjAt.cell o2 (i := 4) rfl
  have c5 := ObjAt.cell o2 (i := 5) rfl
  have HO2 := hide o2
  have HPS := hide hps
  have HVN := hide hvn
  have HB2 := hide hB2
  obtain ⟨a', n', c', rfl⟩ : ∃ a n c, v' = .slice a n c := by
    rcases hps.2 with ⟨_, a, c, h⟩ | ⟨g, off, c, h, _⟩
    · exact ⟨_, _, _, h⟩
    · exact ⟨_, _, _, h⟩
  clear o2 hps hvn hb2 hB2
  go_wp2
  go_end0
  have hown : ∀ g, (Value.slice a' n' c').ownBlock = some g → b < g := fun g hg => by
    rcases HVN.out with h | ⟨g2, h, h5, _⟩
    · rw [h] at hg; cases hg
    · rw [h] at hg; cases hg; have : w.heap.size ≤ g := h5; omega
  have hk : Kept [b] w2 ((((((w2.setCell ⟨b, 0, none⟩ (.slice a' n' c')).setCell ⟨b, 2, none⟩ (.int .i64 (rs.length : Int))).setCell ⟨b, 1, none⟩ (.string z)).setCell ⟨b, 3, none⟩ (.int .i64 (z.size : Int))).setCell ⟨b, 4, none⟩ (.int .i64 (-1))).setCell ⟨b, 5, none⟩ (.bool false)) :=
    ((((((Kept.refl _ _).setCell (.inl (by simp)) _).setCell (.inl (by simp)) _).setCell (.inl (by simp)) _).setCell (.inl (by simp)) _).setCell (.inl (by simp)) _).setCell (.inl (by simp)) _
  refine ⟨⟨_, rfl⟩, .slice a' n' c', ⟨z, ⟨?_, ?_, ?_⟩, ?_⟩, ?_, (Kept.of_below HB2.out _).trans hk⟩
  · show LgO _ _ _ _ _ ((catR rs).length : Int) _ _
    rw [← HZS.out]
    exact (((((HO2.out.set 0 _).set 2 _).set 1 _).set 3 _).set 4 _).set 5 _
  · exact PSl.kept HPS.out hk (fun x hx he => by have := hown x he; simp at hx; omega)
  · intro he
    have := hown b he
    omega
  · rw [HZL.out]
    simp [LS.bytes]
  · rcases HVN.out with h | ⟨g2, h, h5, h6⟩
    · exact .inl h
    · exact .inr ⟨g2, h, h5, by simpa using h6⟩
theorem lgsAll {s : LS} {b : Nat} {v : Value} (w : World) (h : LgS w b v s) :
    Calls Tryz.prog 11 #[.pointer (some ⟨b, 0, none⟩)] w fun e w' => ∃ v', e = .returned v' ∧ PSl w' v' s.zs ∧ Below w.heap.size w w' := by
  obtain ⟨x, h, _⟩ := h
  have q0 := ObjAt.cell h.1 (i := 0) rfl
  have hl := h.2.1.1
  have C := hide (spClone v s.zs w h.2.1)
  clear h
  go_enter Tryz.func11, Tryz.ntmps11
  go_wp2_with fail
  refine C.out.mono ?_
  rintro e w1 ⟨v', rfl, hown, hb1⟩
  have HP := hide (own_psl hown hl)
  clear hown
  go_wp2
  go_returns
  exact ⟨_, rfl, HP.out, hb1⟩
theorem lgsBytes {s : LS} {b : Nat} {v : Value} (w : World) (h : LgS w b v s) :
    Calls Tryz.prog 12 #[.pointer (some ⟨b, 0, none⟩)] w fun e w' => e = .returned (.int .i64 (s.bytes.length : Int)) ∧ w = w' := by
  obtain ⟨x, ⟨h1, h2⟩, h3⟩ := h
  rw [← bytes_size h3]
  exact lgBytes w h1
theorem lgsSafe {s : LS} {b : Nat} {v : Value} (w : World) (h : LgS w b v s) :
    Calls Tryz.prog 13 #[.pointer (some ⟨b, 0, none⟩)] w fun e w' => e = .returned (.int .i64 s.safe) ∧ w = w' := by
  obtain ⟨x, ⟨h1, h2⟩, h3⟩ := h
  exact lgSafe w h1
end Go.Proofs.YtjbpkmmpbhngbaaGreatDoor

/- Objects of four cells, stored anew. -/
import Derived.Test.YtjbpkmmpbhngbaaGreatDoorObj
namespace Go.Proofs.YtjbpkmmpbhngbaaGreatDoor
open Go.RowKit
theorem ObjAt.set4 {w : World} {b : Nat} {t : TypeId} {a0 a1 a2 a3 v0 v1 v2 v3 : Value} (h : ObjAt w b t [a0, a1, a2, a3]) :
    ObjAt ((((w.setCell ⟨b, 0, none⟩ v0).setCell ⟨b, 1, none⟩ v1).setCell ⟨b, 2, none⟩ v2).setCell ⟨b, 3, none⟩ v3) b t [v0, v1, v2, v3] :=
  (((h.set 0 v0).set 1 v1).set 2 v2).set 3 v3
theorem Below.set4 {B : Nat} {a w : World} {c : Nat} {v0 v1 v2 v3 : Value} (h : Below B a w) (hc : B ≤ c) :
    Below B a ((((w.setCell ⟨c, 0, none⟩ v0).setCell ⟨c, 1, none⟩ v1).setCell ⟨c, 2, none⟩ v2).setCell ⟨c, 3, none⟩ v3) :=
  (((h.setCell hc v0).setCell hc v1).setCell hc v2).setCell hc v3
theorem ObjAt.set3 {w : World} {b : Nat} {t : TypeId} {a0 a1 a2 v0 v1 v2 : Value} (h : ObjAt w b t [a0, a1, a2]) :
    ObjAt (((w.setCell ⟨b, 0, none⟩ v0).setCell ⟨b, 1, none⟩ v1).setCell ⟨b, 2, none⟩ v2) b t [v0, v1, v2] :=
  ((h.set 0 v0).set 1 v1).set 2 v2
theorem Below.set3 {B : Nat} {a w : World} {c : Nat} {v0 v1 v2 : Value} (h : Below B a w) (hc : B ≤ c) :
    Below B a (((w.setCell ⟨c, 0, none⟩ v0).setCell ⟨c, 1, none⟩ v1).setCell ⟨c, 2, none⟩ v2) :=
  ((h.setCell hc v0).setCell hc v1).setCell hc v2
theorem ObjAt.other3 {w : World} {b c : Nat} {t : TypeId} {cs : List Value} {v0 v1 v2 : Value} (h : ObjAt w b t cs) (hn : b ≠ c) :
    ObjAt (((w.setCell ⟨c, 0, none⟩ v0).setCell ⟨c, 1, none⟩ v1).setCell ⟨c, 2, none⟩ v2) b t cs :=
  ((h.setOther hn v0).setOther hn v1).setOther hn v2
theorem ObjAt.set2 {w : World} {b : Nat} {t : TypeId} {a0 a1 v0 v1 : Value} (h : ObjAt w b t [a0, a1]) :
    ObjAt ((w.setCell ⟨b, 0, none⟩ v0).setCell ⟨b, 1, none⟩ v1) b t [v0, v1] :=
  (h.set 0 v0).set 1 v1
theorem Below.set2 {B : Nat} {a w : World} {c : Nat} {v0 v1 : Value} (h : Below B a w) (hc : B ≤ c) :
    Below B a ((w.setCell ⟨c, 0, none⟩ v0).setCell ⟨c, 1, none⟩ v1) :=
  (h.setCell hc v0).setCell hc v1
theorem ObjAt.other2 {w : World} {b c : Nat} {t : TypeId} {cs : List Value} {v0 v1 : Value} (h : ObjAt w b t cs) (hn : b ≠ c) :
    ObjAt ((w.setCell ⟨c, 0, none⟩ v0).setCell ⟨c, 1, none⟩ v1) b t cs :=
  (h.setOther hn v0).setOther hn v1
theorem kcell {S : List Nat} {W w1 : World} (hk : Kept S W w1) : (∀ b o, b < W.heap.size → b ∉ S → w1.cell? ⟨b, o, none⟩ = W.cell? ⟨b, o, none⟩) ∧ (∀ b o, b < W.heap.size → b ∉ S → w1.frozen? ⟨b, o, none⟩ = W.frozen? ⟨b, o, none⟩) :=
  ⟨fun b o h hn => hk.cell (p := ⟨b, o, none⟩) h hn, fun b o h hn => hk.frozen (p := ⟨b, o, none⟩) h hn⟩
end Go.Proofs.YtjbpkmmpbhngbaaGreatDoor

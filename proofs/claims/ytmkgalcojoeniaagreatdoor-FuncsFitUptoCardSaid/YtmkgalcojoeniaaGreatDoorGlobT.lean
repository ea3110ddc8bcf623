/- Walks: the reference's sets: Takes. -/
import Derived.Test.YtmkgalcojoeniaaGreatDoorGlobR
set_option maxRecDepth 100000
set_option linter.unusedVariables false
set_option linter.unusedSimpArgs false
namespace Go.Proofs.YtmkgalcojoeniaaGreatDoor
open Go.RowKit

theorem tail_data (s : ByteArray) (k : Nat) : (s.extract k s.size).data.toList = s.data.toList.drop k := by
  rw [Lib.extract_data]; exact List.take_of_length_le (by simp)
theorem tk1 (q : ByteArray) (c : UInt8) (h : 0 < q.size) (h94 : ((q[0].toNat : Int) == 94) = true) : (!Fit.holdsL (q.extract 1 q.size).data.toList c) = Fit.takesR q.data.toList c := by
  have e : q[0] = 94 := UInt8.toNat_inj.1 (by rw [beq_iff_eq] at h94; simp; omega)
  have hd := dropB1 q 0 h
  rw [List.drop_zero, e] at hd
  rw [hd, Fit.takesR_not, tail_data]
theorem tk2 (q : ByteArray) (c : UInt8) (h : 0 < q.size) (h94 : ((q[0].toNat : Int) == 94) = false) : Fit.holdsL q.data.toList c = Fit.takesR q.data.toList c := by
  have e : q[0] ≠ 94 := fun e => by rw [e] at h94; exact absurd h94 (by decide)
  have hd := dropB1 q 0 h
  rw [List.drop_zero] at hd
  rw [hd, Fit.takesR_plain _ _ e]
theorem tk3 (q : ByteArray) (c : UInt8) (h : ¬ 0 < q.size) : Fit.holdsL q.data.toList c = Fit.takesR q.data.toList c := by
  have he : q.data.toList = [] := List.eq_nil_of_length_eq_zero (by have : q.data.toList.length = q.size := rfl; omega)
  rw [he]; rfl

set_option maxHeartbeats 1000000 in
theorem rtakes_any (p : ByteArray) (c : UInt8) (w : World) (hp : p.size ≤ 1048576) (h0 : 0 < p.size) (r : Bool) (hr : Hid (Fit.takesR (p.data.toList.drop 1) c = r)) :
    Calls Tryz.prog 110 #[.string p, .int .u8 (c.toNat : Int)] w fun e w' => e = .returned (.bool r) ∧ w = w' := by
  have h1 : (1 : Int) ≤ (p.size : Int) := by omega
  have h2 : 1 ≤ p.size := h0
  have e : (p.extract 1 p.size).size = p.size - 1 := by simp
  replace e := Lib.hid e
  go_enter Tryz.func110, Tryz.ntmps110
  go_wp2_with (go_at_call 148; refine (rholds_any _ c _ (by simp; omega) _ (Lib.hid rfl)).mono ?_; rintro e w1 ⟨rfl, rfl⟩)
  all_goals (go_ret; refine ⟨ret_bool ?_, rfl⟩; rw [← hr.out, ← tail_data p 1])
  · rename_i h3 h4
    have := tk1 (p.extract 1 p.size) c (by rw [e.out]; exact h3) h4
    rw [e.out] at this
    have e2 : min (1 + (p.size - 1)) p.size = p.size := by omega
    simpa [e2] using this
  · rename_i h3 h4
    have := tk2 (p.extract 1 p.size) c (by rw [e.out]; exact h3) h4
    simpa using this
  · rename_i h3
    have := tk3 (p.extract 1 p.size) c (by rw [e.out]; exact h3)
    simpa using this

end Go.Proofs.YtmkgalcojoeniaaGreatDoor

/- Plain law: the gl weight of a word, told by the reference and by the program alike. Conditions: numbers of 64 bits. -/
import Derived.Test.YtokcklkjnjffnabKCirc
import Derived.Test.YtokcklkjnjffnabKGl
import Derived.Test.YtokcklkjnjffnabPAx0
import Derived.Test.YtokcklkjnjffnabPAx2
import Derived.Test.YtokcklkjnjffnabPAx3
import Derived.Test.YtokcklkjnjffnabPAx4
import Derived.Test.YtokcklkjnjffnabPEx0
import Derived.Test.YtokcklkjnjffnabPEx1
set_option linter.unusedVariables false
set_option linter.unusedSimpArgs false
namespace Go.Proofs.Ytokcklkjnjffnab.K
open Go.RowKit Go.Proofs.YtokcklkjnjffnabW.PrintWords Go.Proofs.YtokcklkjnjffnabW.PrintLast Go.Proofs.YtokcklkjnjffnabW.PrintMore Go.Proofs.Ytokcklkjnjffnab.PA Go.Proofs.Ytokcklkjnjffnab.PE

theorem glL_nat (m : Nat) : glL (m : Int) = List.replicate m 0 ++ [1] := by
  unfold glL
  rw [show ((m : Int) + 1).toNat = m + 1 by omega, Int.toNat_natCast]
  induction m with
  | zero => rfl
  | succ m ih => rw [List.replicate_succ, List.set_cons_succ, ih]; rfl
theorem ev_own (l : List Int) (hl : l.length < 17592186044416) : spec_l01Own.f l = some l := by
  unfold spec_l01Own.f
  simp only [Option.bind_some, List.length_nil, Nat.zero_add, List.nil_append]
  rw [if_pos hl]
theorem ev_power (m : Nat) (hm : m ≤ 4096) : Ev (fun k => spec_l05Power.f k (m : Int) 1) (glL m) := by
  have h1 : (List.replicate (m + 1) (0 : Int)).set m 1 = glL m := by
    unfold glL
    rw [show ((m : Int) + 1).toNat = m + 1 by omega, Int.toNat_natCast]
  have hlen : (glL (m : Int)).length = m + 1 := by rw [← h1]; simp
  have hlast : rd (glL (m : Int)) (m : Int) = 1 := by
    rw [glL_nat]
    unfold rd
    rw [Int.toNat_natCast, List.getD_eq_getElem?_getD, List.getElem?_append_right (by simp)]
    simp
  unfold spec_l05Power.f
  rw [wrap_id (by omega) (by omega)]
  refine ev_pos (by omega) (ev_pos (by omega) (ev_const rfl ?_))
  rw [show ((m : Int) + 1).toNat = m + 1 by omega, Int.toNat_natCast, h1]
  refine ev_pos (by omega) (ev_pos (by rw [List.length_replicate]; omega) ?_)
  refine Ev.bind (a := glL m) ?_ (ev_some _)
  refine ev_of (fun k => spec_l05Trim.mono _ _) ⟨1, ?_⟩
  unfold spec_l05Trim.f
  simp only [spec_l05Trim.l0]
  rw [hlen, wrap_id (by omega) (by omega), if_pos (by omega), if_pos (by omega), if_pos (by omega), show (((m + 1 : Nat) : Int) - 1) = (m : Int) by omega, hlast, if_neg (by omega), if_pos (by omega), if_pos (by omega),
    show (((m + 1 : Nat) : Int)).toNat = m + 1 by omega, List.take_of_length_le (by omega), ev_own _ (by omega)]
  rfl
theorem gl_eq (l : List Int) (h64 : Ok64 l) : ∃ (a : List Int) (b : Int), a.length ≤ 20 ∧ Ev (fun k => spec_GlWeight.f k l) (a, b) ∧ Ev (fun k => impl_GlWeight.f k l) (a, b) := by
  cases hw : isWordL l with
  | false =>
    refine ⟨[], 1, by simp, ?_, ?_⟩
    · unfold spec_GlWeight.f
      exact Ev.bind (ev_specIs l) (ev_neg (by simp [hw]) (ev_some _))
    · unfold impl_GlWeight.f
      refine Ev.bind (a := (([] : List Int), (1 : Int))) ?_ (ev_some _)
      unfold impl_WeightOfKind.f
      exact Ev.bind (ev_isWord l h64) (ev_neg (by simp [hw]) (ev_some _))
  | true =>
    obtain ⟨n, hW⟩ := word_of l hw
    have hlen := hW.len
    have hsm := hW.small
    have h2 : (l.length : Int) / 2 = n := by omega
    obtain ⟨c, hc1, hc2, hs, hi⟩ := ev_circles0 hW (List.replicate n false) (by simp) (fun i hi => by
      unfold rdOf
      rw [Int.toNat_natCast, List.getD_eq_getElem?_getD, List.getElem?_replicate]
      split <;> rfl)
    obtain ⟨m, rfl⟩ : ∃ m : Nat, c = m := ⟨c.toNat, by omega⟩
    have hnone : spec_l05None.f l = some (List.replicate n false) := by
      unfold spec_l05None.f
      rw [h2, wrap_id (by omega) (by omega), if_pos (by omega), if_pos (by omega), Int.toNat_natCast]
    have hu : IntKind.u64.wrap (wrap64 ((l.length : Int) / 2)) = n := by
      rw [h2, wrap_id (by omega) (by omega)]
      show (n : Int) % 18446744073709551616 = n
      omega
    have hwt : Ev (fun k => spec_l05Weight.f k l 0) (glL m) := by
      unfold spec_l05Weight.f
      refine ev_const rfl ?_
      rw [hu]
      exact ev_pos (by omega) (ev_pos rfl (ev_const hnone (Ev.bind hs (Ev.bind (ev_power m (by omega)) (ev_some _)))))
    have hwi : Ev (fun k => impl_weight.f k l 0) (glL m) := by
      unfold impl_weight.f
      exact ev_pos rfl (Ev.bind hi (ev_pos (by omega) (ev_some _)))
    refine ⟨glL m, 0, by rw [glL_nat]; simp; omega, ?_, ?_⟩
    · unfold spec_GlWeight.f
      exact Ev.bind (ev_specIs l) (ev_pos hw (Ev.bind hwt (ev_some _)))
    · unfold impl_GlWeight.f
      refine Ev.bind (a := (glL m, (0 : Int))) ?_ (ev_some _)
      unfold impl_WeightOfKind.f
      exact Ev.bind (ev_isWord l h64) (ev_pos hw (ev_const (show impl_kindOk.f 0 = some true by rfl) (ev_pos rfl (Ev.bind hwi (ev_some _)))))
end Go.Proofs.Ytokcklkjnjffnab.K

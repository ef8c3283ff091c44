/- The plain law of FnTransforms. Conditions: none. -/
import Derived.Test.YtmoodakaecmkgaaKTransInv
import Derived.Test.YtmoodakaecmkgaaKUntransLaw
import Derived.Test.YtmoodakaecmkgaaKDraw
import Derived.Test.YtmoodakaecmkgaaKExt
import Derived.Test.YtmoodakaecmkgaaPAx0
import Derived.Test.YtmoodakaecmkgaaPAx10
import Derived.Test.YtmoodakaecmkgaaPAx9
import Derived.Test.YtmoodakaecmkgaaPBx0
import Derived.Test.YtmoodakaecmkgaaPBx3
namespace Go.Proofs.Ytmoodakaecmkgaa.Pure
open Go.RowKit Go.Proofs.Ytmoodakaecmkgaa.PB Go.Proofs.Ytmoodakaecmkgaa.PA Go.Proofs.Ytmoodakaecmkgaa.K Go.Proofs.YtmoodakaecmkgaaW.PrintWords Go.Proofs.YtmoodakaecmkgaaW.PrintLast Go.Proofs.YtmoodakaecmkgaaW.PrintMore
set_option linter.unusedVariables false
set_option linter.unusedSimpArgs false

theorem likeInts_l0 (a b : List Int) (hl : a.length < 1099511627776) (hab : a.length = b.length) (d : Nat) : ∀ (i : Nat), a.length - i = d → i ≤ a.length →
    ∃ n, laws_likeInts.l0 n a b i = some (decide (a.drop i = b.drop i)) := by
  induction d with
  | zero =>
    intro i hd hi
    refine ⟨1, ?_⟩
    simp only [laws_likeInts.l0]
    rw [if_neg (by omega), List.drop_of_length_le (by omega), List.drop_of_length_le (by omega)]
    rfl
  | succ d ih =>
    intro i hd hi
    have hlt : i < a.length := by omega
    have hlt2 : i < b.length := by omega
    obtain ⟨n, hn⟩ := ih (i + 1) (by omega) (by omega)
    refine ⟨n + 1, ?_⟩
    simp only [laws_likeInts.l0]
    rw [if_pos (by omega), if_pos (by omega), if_pos (by omega), wrap_id (by omega) (by omega), drop_at a i hlt, drop_at b i hlt2]
    by_cases h : rd a i = rd b i
    · rw [if_pos h]
      refine (show laws_likeInts.l0 n a b ((i : Int) + 1) = _ from hn).trans ?_
      simp [h]
    · rw [if_neg h]
      simp [h]
theorem ev_like (a b : List Int) (hl : a.length < 1099511627776) : Ev (fun k => laws_likeInts.f k a b) (decide (a = b)) := by
  refine ev_of (fun k => laws_likeInts.mono _ _ _) ?_
  by_cases h : a.length = b.length
  · obtain ⟨n, hn⟩ := likeInts_l0 a b hl h a.length 0 (by omega) (by omega)
    refine ⟨n, ?_⟩
    unfold laws_likeInts.f
    rw [if_pos (by omega)]
    exact hn
  · refine ⟨0, ?_⟩
    unfold laws_likeInts.f
    rw [if_neg (by omega)]
    have : ¬ a = b := fun e => h (by rw [e])
    simp [this]

theorem draw_l0 (code : List Int) (d : Nat) : ∀ (out : List Int) (m at_ h : Int), m.toNat = d → m ≤ 21 → out.length + d ≤ 21 → Src code at_ → ∃ n r, spec_DrawTransformCounts.l0 n out m code at_ h = some r ∧ r.length ≤ 21 := by
  induction d with
  | zero =>
    intro out m at_ h hm h21 ho hs
    obtain ⟨r, at2, h2, e, h0, _, hs2⟩ := next_ok hs h 16
    by_cases hr : r = 0
    · by_cases hl : (out.length : Int) > 0
      · obtain ⟨r3, at3, h3, e3, _, hs3⟩ := pick_ok hs2 h2 [(-1), 1000, 1001] (by simp)
        refine ⟨1, out.set 0 r3, ?_, by simp; omega⟩
        rw [spec_DrawTransformCounts.l0, if_neg (by omega), e]
        simp only [Option.bind_some]
        rw [if_pos hr, if_pos hl, e3]
        simp only [Option.bind_some]
        rw [if_pos (by omega)]
        rfl
      · refine ⟨1, out, ?_, by omega⟩
        rw [spec_DrawTransformCounts.l0, if_neg (by omega), e]
        simp only [Option.bind_some]
        rw [if_pos hr, if_neg hl]
    · refine ⟨1, out, ?_, by omega⟩
      rw [spec_DrawTransformCounts.l0, if_neg (by omega), e]
      simp only [Option.bind_some]
      rw [if_neg hr]
  | succ d ih =>
    intro out m at_ h hm h21 ho hs
    obtain ⟨r, at2, h2, e, h0, _, hs2⟩ := next_ok hs h 6
    obtain ⟨r3, at3, h3, e3, _, hs3⟩ := pick_ok hs2 h2 [0, 1, 1, 2, r] (by simp)
    obtain ⟨n, q, hn, hq⟩ := ih (out ++ [r3]) (m - 1) at3 h3 (by omega) (by omega) (by simp; omega) hs3
    refine ⟨n + 1, q, ?_, hq⟩
    have c4 : out.length < 17592186044416 := by omega
    rw [spec_DrawTransformCounts.l0, if_pos (by omega), e]
    simp only [Option.bind_some]
    rw [e3]
    simp only [Option.bind_some]
    rw [if_pos c4, wrap_id (by omega) (by omega)]
    exact hn
theorem draw_trans (code : List Int) (hb : ∀ x ∈ code, 0 ≤ x ∧ x ≤ 255) (hl : code.length < 1099511627776) : ∃ r, Ev (fun k => spec_DrawTransformCounts.f k code) r ∧ r.length ≤ 21 := by
  obtain ⟨h, hf, hs⟩ := from_ok code hb hl
  obtain ⟨r1, a1, h1, e1, _, _, s1⟩ := next_ok hs h 6
  obtain ⟨r2, a2, h2, e2, s2⟩ := near_ok s1 h1 20
  obtain ⟨r3, a3, h3, e3, _, s3⟩ := pick_ok s2 h2 [r1, r2] (by simp)
  have hmn : mn r3 21 ≤ 21 := by unfold mn; split <;> omega
  obtain ⟨n, r, hn, hr⟩ := draw_l0 code (mn r3 21).toNat [] (mn r3 21) a3 h3 rfl hmn (by simp; omega) s3
  refine ⟨r, ?_, hr⟩
  unfold spec_DrawTransformCounts.f
  refine Ev.bind hf ?_
  refine ev_const e1 (ev_const e2 (ev_const e3 ?_))
  exact ev_of (fun k => (spec_DrawTransformCounts.mono_l k) _ _ _ _ _) ⟨n, hn⟩
theorem draw_untrans (code : List Int) (hb : ∀ x ∈ code, 0 ≤ x ∧ x ≤ 255) (hl : code.length < 1099511627776) : ∃ r, Ev (fun k => spec_DrawUntransformCounts.f k code) r ∧ r.length ≤ 1048577 := by
  obtain ⟨h, hf, hs⟩ := from_ok code hb hl
  obtain ⟨r, hr, hrl⟩ := draw_trans code hb hl
  have hT := transI_length r (by omega)
  obtain ⟨r1, a1, h1, e1, _, _, s1⟩ := next_ok hs h 3
  have c4 : ([1] : List Int).length + r.length < 17592186044416 := by simp; omega
  unfold spec_DrawUntransformCounts.f
  by_cases h0 : (transI r).2 = 0
  · by_cases hp : r1 > 0
    · exact ⟨_, Ev.bind hf (Ev.bind hr (Ev.bind (ev_specTrans r (by omega)) (ev_pos h0 (ev_const e1 (ev_pos hp (ev_some _)))))), hT⟩
    · exact ⟨_, Ev.bind hf (Ev.bind hr (Ev.bind (ev_specTrans r (by omega)) (ev_pos h0 (ev_const e1 (ev_neg hp (ev_const rfl (ev_pos c4 (ev_some _)))))))), by simp; omega⟩
  · exact ⟨_, Ev.bind hf (Ev.bind hr (Ev.bind (ev_specTrans r (by omega)) (ev_neg h0 (ev_const rfl (ev_pos c4 (ev_some _)))))), by simp; omega⟩

theorem FnTransforms : laws_FnTransforms.Pure := by
  intro code hm h8 hwf
  refine Ev.rounds ?_
  have hb := bytes_wf hwf
  unfold laws_FnTransforms.f
  refine ev_const rfl (ev_if (fun _ => ev_some _) fun hbig => ?_)
  have hl : code.length ≤ 4096 := by simp at hbig; omega
  obtain ⟨t, ht, htl⟩ := draw_trans code hb (by omega)
  obtain ⟨u, hu, hul⟩ := draw_untrans code hb (by omega)
  have hT := transI_length t (by omega)
  have hU := untransI_length u
  refine Ev.bind ht (ev_const rfl (Ev.bind (ev_specTrans t (by omega)) (ev_pos rfl (Ev.bind (ev_like _ _ (by omega)) ?_))))
  refine Ev.step (fun n => by rw [laws_FnTransforms.j0]) ?_
  refine ev_neg (by simp) (Ev.bind hu (ev_const rfl (Ev.bind (ev_specUntrans u (by omega)) (ev_pos rfl (Ev.bind (ev_like _ _ (by omega)) ?_)))))
  have last : Ev (fun n => laws_FnTransforms.j2 n t (transI t).1 (transI t).2) true := by
    refine Ev.step (fun n => by rw [laws_FnTransforms.j2]) ?_
    refine ev_if (fun h0 => ?_) fun h0 => ?_
    · obtain ⟨hh, hhl⟩ := transI_head t h0
      refine ev_const rfl (ev_pos (by omega) (ev_pos (show rd _ 0 = 1 from hh) (ev_pos (by rw [wrap_id (by omega) (by omega)]; omega) (ev_pos (by rw [inv_left t h0]) (Ev.bind (ev_like _ _ (by rw [inv_left t h0]; show t.length < _; omega)) ?_)))))
      rw [inv_left t h0]
      exact ev_eq (ev_some _) (by simp)
    · have : (transI t).1.length = 0 := by
        rw [transI_eq] at h0 ⊢
        split at h0
        · rename_i h; rw [if_pos h]; rfl
        · rename_i h
          rw [if_neg h]
          split at h0
          · rename_i h2; rw [if_pos h2]; rfl
          · simp at h0
      exact ev_eq (ev_some _) (by simp [this])
  refine Ev.step (fun n => by rw [laws_FnTransforms.j1]) ?_
  refine ev_neg (by simp) (ev_if (fun h0 => ?_) fun _ => last)
  refine ev_const rfl ?_
  have := inv_right u h0
  rw [this]
  exact ev_pos rfl (Ev.bind (ev_like u u (by omega)) (ev_pos (by simp) last))
end Go.Proofs.Ytmoodakaecmkgaa.Pure

/- Plain laws: the reference's draws answer within their ranges. Conditions: the code's bytes are from 0 to 255. -/
import Derived.Test.YtmoodakaecmkgaaKEv
import Derived.Laws.BitsAllLaws
import Derived.Test.YtmoodakaecmkgaaPAx0
import Derived.Test.YtmoodakaecmkgaaPAx8
import Derived.Test.YtmoodakaecmkgaaPAx9
set_option linter.unusedVariables false
set_option linter.unusedSimpArgs false
namespace Go.Proofs.Ytmoodakaecmkgaa.K
open Go.RowKit Go.Proofs.YtmoodakaecmkgaaW.PrintWords Go.Proofs.YtmoodakaecmkgaaW.PrintLast Go.Proofs.YtmoodakaecmkgaaW.PrintMore Go.Proofs.Ytmoodakaecmkgaa.PA

/-- A source stands within its code. -/
structure Src (code : List Int) (at_ : Int) : Prop where
  bytes : ∀ x ∈ code, 0 ≤ x ∧ x ≤ 255
  len : code.length < 1099511627776
  lo : 0 ≤ at_
  hi : at_ ≤ code.length
theorem and_range (y : Int) (h0 : 0 ≤ y) (h1 : y < 18446744073709551616) : 0 ≤ Go.bits .and .u64 y 16777215 ∧ Go.bits .and .u64 y 16777215 ≤ 16777215 := by
  rw [u64_and y 16777215 h0 h1 (by omega) (by omega)]
  have := @Nat.and_le_right y.toNat (16777215 : Int).toNat
  have e : (16777215 : Int).toNat = 16777215 := rfl
  rw [e] at this ⊢
  constructor
  · exact Int.natCast_nonneg _
  · exact Int.ofNat_le.mpr this
theorem tmod_range (x n : Int) (h0 : 0 ≤ x) (h1 : 1 ≤ n) : 0 ≤ Int.tmod x n ∧ Int.tmod x n < n := by
  rw [Int.tmod_eq_emod_of_nonneg h0]
  exact ⟨Int.emod_nonneg _ (by omega), Int.emod_lt_of_pos _ (by omega)⟩
theorem wrap_u64_range (x : Int) : 0 ≤ IntKind.u64.wrap x ∧ IntKind.u64.wrap x < 18446744073709551616 := by
  rw [IntKind.wrap_u64]; omega
theorem next_ok {code : List Int} {at_ : Int} (hs : Src code at_) (hash n : Int) :
    ∃ r at2 h2, spec_l01Next.f code at_ hash n = some (r, at2, h2) ∧ 0 ≤ r ∧ (1 ≤ n → r < n) ∧ Src code at2 := by
  unfold spec_l01Next.f
  by_cases h1 : n < 1
  · rw [if_pos h1]
    exact ⟨0, at_, hash, rfl, Int.le_refl _, fun h => by omega, hs⟩
  · rw [if_neg h1]
    obtain ⟨y, hy⟩ : ∃ y, y = IntKind.u64.wrap ((IntKind.u64.wrap (hash * 6364136223846793005)) + 1442695040888963407) := ⟨_, rfl⟩
    rw [← hy]
    have hyr := wrap_u64_range ((IntKind.u64.wrap (hash * 6364136223846793005)) + 1442695040888963407)
    rw [← hy] at hyr
    have hb := and_range (y / 8589934592) (by omega) (by omega)
    obtain ⟨b, hbe⟩ : ∃ b, b = Go.bits .and .u64 (y / 8589934592) 16777215 := ⟨_, rfl⟩
    rw [← hbe] at hb ⊢
    clear hy hbe
    have hsl := hs.len
    have hs0 := hs.lo
    have hs1 := hs.hi
    by_cases h2 : at_ < (code.length : Int)
    · have hc : 0 ≤ rd code at_ ∧ rd code at_ ≤ 255 := by
        have := rd_mem code at_.toNat (by omega)
        rw [show ((at_.toNat : Nat) : Int) = at_ by omega] at this
        exact hs.bytes _ this
      have hr := tmod_range (b + rd code at_) n (by omega) (by omega)
      rw [if_pos h2, if_pos hs0, if_neg (by omega), wrap_id (x := b) (by omega) (by omega), wrap_id (x := rd code at_) (by omega) (by omega), wrap_id (x := b + rd code at_) (by omega) (by omega), wrap_id (x := at_ + 1) (by omega) (by omega)]
      exact ⟨_, _, _, rfl, hr.1, fun _ => hr.2, ⟨hs.bytes, hsl, by omega, by omega⟩⟩
    · have hr := tmod_range b n (by omega) (by omega)
      rw [if_neg h2, if_neg (by omega), wrap_id (x := b) (by omega) (by omega)]
      exact ⟨_, _, _, rfl, hr.1, fun _ => hr.2, hs⟩
theorem pick_ok {code : List Int} {at_ : Int} (hs : Src code at_) (hash : Int) (l : List Int) (hl : 0 < l.length) :
    ∃ r at2 h2, spec_l01Pick.f code at_ hash l = some (r, at2, h2) ∧ r ∈ l ∧ Src code at2 := by
  obtain ⟨r, at2, h2, e, h0, h1, hs2⟩ := next_ok hs hash (l.length : Int)
  have h1 := h1 (by omega)
  refine ⟨rd l r, at2, h2, ?_, ?_, hs2⟩
  · unfold spec_l01Pick.f
    rw [e]
    simp only [Option.bind_some]
    rw [if_pos h0, if_pos h1]
  · have := rd_mem l r.toNat (by omega)
    rwa [show ((r.toNat : Nat) : Int) = r by omega] at this
theorem near_ok {code : List Int} {at_ : Int} (hs : Src code at_) (hash most : Int) :
    ∃ r at2 h2, spec_l01Near.f code at_ hash most = some (r, at2, h2) ∧ Src code at2 := by
  obtain ⟨r, at2, h2, e, h0, h1, hs2⟩ := next_ok hs hash 14
  unfold spec_l01Near.f
  rw [e]
  simp only [Option.bind_some]
  by_cases h : r = 0
  · rw [if_pos h]
    obtain ⟨r3, at3, h3, e3, _, hs3⟩ := pick_ok hs2 h2 [(-1), wrap64 (most + 1), 1099511627776, (-4611686018427387904)] (by simp)
    rw [e3]
    exact ⟨_, _, _, rfl, hs3⟩
  · rw [if_neg h]
    obtain ⟨r3, at3, h3, e3, _, _, hs3⟩ := next_ok hs2 h2 (wrap64 (most + 1))
    rw [e3]
    exact ⟨_, _, _, rfl, hs3⟩
theorem from_l0 (code : List Int) (hl : code.length < 1099511627776) (d : Nat) : ∀ (i : Nat) (h : Int), code.length - i = d → i ≤ code.length → ∃ n h2, spec_l01From.l0 n code i code 0 h = some (code, 0, h2) := by
  induction d with
  | zero =>
    intro i h hd hi
    exact ⟨1, h, by rw [spec_l01From.l0, if_neg (by omega)]⟩
  | succ d ih =>
    intro i h hd hi
    by_cases h4 : (i : Int) < 4096
    · obtain ⟨n, h2, hn⟩ := ih (i + 1) (IntKind.u64.wrap ((IntKind.u64.wrap ((IntKind.u64.wrap (h * 1099511628211)) + (IntKind.u64.wrap (rd code i)))) + 113)) (by omega) (by omega)
      refine ⟨n + 1, h2, ?_⟩
      rw [spec_l01From.l0, if_pos (by omega), if_pos h4, if_pos (by omega), wrap_id (x := (i : Int) + 1) (by omega) (by omega)]
      exact hn
    · exact ⟨1, h, by rw [spec_l01From.l0, if_pos (by omega), if_neg h4]⟩
theorem from_ok (code : List Int) (hb : ∀ x ∈ code, 0 ≤ x ∧ x ≤ 255) (hl : code.length < 1099511627776) : ∃ h, Ev (fun k => spec_l01From.f k code) (code, 0, h) ∧ Src code 0 := by
  obtain ⟨n, h2, hn⟩ := from_l0 code hl code.length 0 (IntKind.u64.wrap (13031 + (IntKind.u64.wrap ((code.length : Int))))) (by omega) (by omega)
  exact ⟨h2, ev_of (fun k => spec_l01From.mono _ _) ⟨n, hn⟩, ⟨hb, hl, Int.le_refl _, by omega⟩⟩
theorem bytes_wf {code : List Int} (h : ∀ x ∈ code, (Lit.int .u8 x).wf = true) : ∀ x ∈ code, 0 ≤ x ∧ x ≤ 255 := by
  intro x hx
  have := h x hx
  have hmin : IntKind.u8.min = 0 := rfl
  have hmax : IntKind.u8.max = 255 := rfl
  simp only [Lit.wf, Bool.and_eq_true, decide_eq_true_eq] at this
  omega
end Go.Proofs.Ytmoodakaecmkgaa.K

/- Any reply is laid, or refused. -/
import Derived.Test.YtopdgmchkoaeeaaDoorRtF
import Derived.Test.YtopdgmchkoaeeaaDoorRtH
import Derived.Test.YtopdgmchkoaeeaaDoorRtI
import Derived.Test.YtopdgmchkoaeeaaDoorRtM
namespace Go.Proofs.YtopdgmchkoaeeaaDoor
open Go.RowKit
set_option linter.unusedVariables false
set_option linter.unusedSimpArgs false

theorem lay_step {B tb ib bb fb : Nat} (d : Nat) (hd : d ≤ 1000) (hsub : ∀ d', d = d' + 1 → LayAll B tb ib bb fb d') : LayAll B tb ib bb fb d := by
  intro w T I l x q c D h hT hI hL hv h6
  have hx6 : (-9223372036854775808 ≤ x.n ∧ x.n ≤ 9223372036854775807) ∧ i64L x.l := by
    obtain ⟨k, n, s, l'⟩ := x
    exact h6
  by_cases ho : T < x.s.size ∨ I < x.l.length
  · exact lay_over w d x q c h hT hI ho
  · have hs : x.s.size ≤ T := by omega
    have hn : x.l.length ≤ I := by omega
    by_cases k0 : x.k = 0
    · exact lay_k0 w d x q c h hT hI hs hn hL k0
    · by_cases k1 : x.k = 1
      · cases h13 : hasB x.s 13 with
        | true => exact lay_k1a w d x q c h hT hI hs hn hL k1 h13
        | false =>
          cases h10 : hasB x.s 10 with
          | true => exact lay_k1b w d x q c h hT hI hs hn hL k1 h13 h10
          | false => exact lay_k1c w d x q c h hT hI hs hn hL k1 h13 h10
      · by_cases k2 : x.k = 2
        · cases h13 : hasB x.s 13 with
          | true => exact lay_k2a w d x q c h hT hI hs hn hL k2 h13
          | false =>
            cases h10 : hasB x.s 10 with
            | true => exact lay_k2b w d x q c h hT hI hs hn hL k2 h13 h10
            | false => exact lay_k2c w d x q c h hT hI hs hn hL k2 h13 h10
        · by_cases k3 : x.k = 3
          · exact lay_k3 w d x q c h hT hI hs hn hL k3 hx6.1
          · by_cases k4 : x.k = 4
            · exact lay_k4 w d x q c h hT hI hs hn hL k4
            · by_cases k5 : x.k = 5
              · cases d with
                | zero => exact lay_k50 w 0 x q c h hT hI hs hn hL k5 rfl
                | succ d => exact lay_k5 w d x q c h hT hI hs hn hL k5 D (by omega) hv hx6.2 (hsub d rfl)
              · exact lay_kX w d x q c h hT hI hs hn hL x.k rfl ⟨k0, k1, k2, k3, k4, k5⟩
theorem lay_all {B tb ib bb fb : Nat} : ∀ (d : Nat), d ≤ 1000 → LayAll B tb ib bb fb d
  | 0, hd => lay_step 0 hd (fun d' h => by omega)
  | d + 1, hd => lay_step (d + 1) hd (fun d' h => by
      obtain rfl : d = d' := by omega
      exact lay_all d (by omega))
end Go.Proofs.YtopdgmchkoaeeaaDoor

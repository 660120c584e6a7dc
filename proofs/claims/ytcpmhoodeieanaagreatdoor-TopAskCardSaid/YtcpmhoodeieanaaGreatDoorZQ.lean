/-
  TopAsk answers true: to ask how many are right changes nothing. For any task and number, as the card says; no other conditions.
-/
import Derived.Test.YtcpmhoodeieanaaGreatDoorZP
import Derived.Test.YtcpmhoodeieanaaGreatDoorCards
import Derived.Test.YtcpmhoodeieanaaGreatDoorTie
import Derived.SevenTiedAt
set_option maxRecDepth 100000
set_option maxHeartbeats 20000000
set_option linter.unusedVariables false
set_option linter.unusedSimpArgs false
open Go.Proofs.Tryz renaming prog→aq
namespace Go.Proofs.YtcpmhoodeieanaaGreatDoor
open Go.RowKit Go.Proofs.Tryz
namespace topAsk
theorem proved:Rows.TopAskCardSaid:=
 Claim7.holds_tied_plain_at .later [] [.data,.data,.data,.data,.sentinel,.sentinel,.pinned] true (true,"76ba89d0ed6d62d4747eacc2fa1dcbf75bb9511c2d1bcdc18a2aa0a947295aa7") true
  over (λ_ h=>Q38) kr (λ_ h=>Q38) topAsk_row_tie rfl ⟨rfl,rfl⟩ kr rfl
  (λf fn hf Ls=>by
   obtain rfl:f=3:=Option.some.inj ((show aq.funcNamed Tryz.f3.name=some 3 by kernel_rfl).symm.trans hf)|>.symm;obtain rfl:fn=Tryz.f3:=(Option.some.inj (func3.symm.trans Ls)).symm;exact⟨Q2Q,λj t ht=>by
    rw[params3]at ht;have h3:t=33\/t=3:=by
     rcases j with _|_|j
     .exact Or.inl (by simpa using ht.symm)
     .exact Or.inr (by simpa using ht.symm)
     .simp at ht
    rcases h3 with rfl|rfl
    .exact(show aq.wantsStandIn 33=false by kernel_rfl)
    .exact(show aq.wantsStandIn 3=false by kernel_rfl)⟩)
  kr
end topAsk
end Go.Proofs.YtcpmhoodeieanaaGreatDoor

import Derived.Test.YtfpladpbnbpehaaGPnsT
set_option linter.unusedSimpArgs false
set_option linter.unusedVariables false
namespace Go.Proofs.Ytfpladpbnbpehaa
open Go Go.V Go.Pin
set_option maxRecDepth 100000
theorem pns_none : pnsOf 0 noRows = [] := pnsOf_eq [] rfl fun i hi => by omega
theorem isPns_none : isPns 0 noRows = true := isPns_iff.2 ⟨[], rfl, fun i hi => by omega⟩
theorem ptells_c : HCall Try.E 20 [] (.ret (.bool true) []) := by
  refine HCall.of_walk (R := R1) (T := P5) (fun _ _ => .unroll 3) 6 rfl rfl ?_
  rw [ptells_eq]
  dsimp only
  have e2 : ∀ k : List UInt8, trustP [] [97] k = ([⟨[97], k, false⟩], 0) := fun k => rfl
  have e3 : ∀ k : List UInt8, findP [⟨[97], k, false⟩] [97] = (⟨[97], k, false⟩, 0) := fun k => rfl
  rw [pns_none, isPns_none, trustS_eq, findS_eq, e2, e2, pins_of, isPns_pcs, e3]
  exact ⟨rfl, rfl⟩
end Go.Proofs.Ytfpladpbnbpehaa

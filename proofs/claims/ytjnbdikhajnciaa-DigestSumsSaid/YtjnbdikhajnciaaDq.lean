/- The laws' example lives. -/
import Derived.Test.YtjnbdikhajnciaaDm
import Derived.Test.YtjnbdikhajnciaaDp
import Derived.Laws.Strings
namespace Go.Proofs.Ytjnbdikhajnciaa.Dig
open Go.RowKit Go.Proofs.Ytjnbdikhajnciaa.Sha Go.Proofs.Ytjnbdikhajnciaa.Ord Go.Proofs.YtjnbdikhajnciaaW.PrintWords

def abcIn : ByteArray := ⟨#[97, 98, 99]⟩
def abcOut : ByteArray := ⟨#[98,97,55,56,49,54,98,102,56,102,48,49,99,102,101,97,52,49,52,49,52,48,100,101,53,100,97,101,50,50,50,51,98,48,48,51,54,49,97,51,57,54,49,55,55,97,57,99,98,52,49,48,102,102,54,49,102,50,48,48,49,53,97,100]⟩
theorem sum_abc (w : World) : Calls Try.prog 13 #[.string ⟨#[97, 98, 99]⟩] w fun e w' => ∃ t : ByteArray, e = .returned (.string t) ∧ t.size = 32 ∧ hex t.data.toList = abcOut.data.toList ∧ Below w.heap.size w w' :=
  (sum_any ⟨#[97, 98, 99]⟩ (by decide) w).mono fun _ _ ⟨he, hb⟩ => ⟨_, he, rfl, abc, hb⟩

set_option maxRecDepth 100000 in
set_option maxHeartbeats 8000000 in
theorem lives_any (w : World) : Calls Try.prog 12 #[] w fun e w' => e = .returned (.bool true) ∧ Below w.heap.size w w' := by
  go_enter Try.func12, Try.ntmps12
  go_wp2_with fail
  refine (sum_abc _).mono ?_
  rintro e w1 ⟨t, rfl, ht, hx, hb1⟩
  go_wp2_with fail
  refine (hex_any t (by omega) _).mono ?_
  rintro e w2 ⟨rfl, hb2⟩
  have e1 : (⟨(hex t.data.toList).toArray⟩ : ByteArray) = abcOut := by rw [hx]
  rw [e1]
  have e2 : (abcOut.toList == ([98,97,55,56,49,54,98,102,56,102,48,49,99,102,101,97,52,49,52,49,52,48,100,101,53,100,97,101,50,50,50,51,98,48,48,51,54,49,97,51,57,54,49,55,55,97,57,99,98,52,49,48,102,102,54,49,102,50,48,48,49,53,97,100] : List UInt8)) = true := by rw [ByteArray.toList_eq]; decide
  go_wp2_with fail
  go_ret
  exact ⟨rfl, hb1.trans (hb2.mono hb1.size)⟩
end Go.Proofs.Ytjnbdikhajnciaa.Dig

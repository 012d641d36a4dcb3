/- 2^255 - 19 is a prime. -/
import Derived.Test.YtfjmpdoidkblcaaDoorPrime
set_option linter.unusedSimpArgs false
set_option linter.unusedVariables false
namespace Go.Num

theorem pr_127 : Pr 127 := Pr_trial 11 (by decide) (by kernel_rfl) (by decide)
theorem pr_8574133 : Pr 8574133 := Pr_trial 2928 (by decide) (by kernel_rfl) (by decide)
theorem pr_569003 : Pr 569003 := Pr_trial 754 (by decide) (by kernel_rfl) (by decide)
theorem pr_430751 : Pr 430751 := Pr_trial 656 (by decide) (by kernel_rfl) (by decide)
theorem pr_4153 : Pr 4153 := Pr_trial 64 (by decide) (by kernel_rfl) (by decide)
theorem pr_1919519569386763 : Pr 1919519569386763 :=
  pock2m (q := 8574133) (q' := 127) (a := 2) (m := 223873314) (m' := 15114327318006) (x := 1059928654987441) (x' := 576774792492622) (f := 52) (by decide) pr_8574133 (by decide) (by decide) pr_127 (by decide) (by decide) (by decide) (by decide) (by decide) (by decide) (by kernel_rfl) (by kernel_rfl) (by kernel_rfl) (by decide) (by kernel_rfl) (by kernel_rfl) (by decide) (by decide)
theorem pr_2773320623 : Pr 2773320623 :=
  pock1m (q := 569003) (a := 2) (m := 4874) (x := 2039232613) (f := 33) (by decide) pr_569003 (by decide) (by decide) (by decide) (by decide) (by kernel_rfl) (by kernel_rfl) (by kernel_rfl) (by decide) (by decide)
theorem pr_72106336199 : Pr 72106336199 :=
  pock1m (q := 2773320623) (a := 2) (m := 26) (x := 67108864) (f := 38) (by decide) pr_2773320623 (by decide) (by decide) (by decide) (by decide) (by kernel_rfl) (by kernel_rfl) (by kernel_rfl) (by decide) (by decide)
theorem pr_75445702479781427272750846543864801 : Pr 75445702479781427272750846543864801 :=
  pock2m (q := 1919519569386763) (q' := 72106336199) (a := 2) (m := 39304471641247389600) (m' := 1046311689884858398375200) (x := 56747016255153332959347766392083459) (x' := 71619851993489548214160924360205394) (f := 117) (by decide) pr_1919519569386763 (by decide) (by decide) pr_72106336199 (by decide) (by decide) (by decide) (by decide) (by decide) (by decide) (by kernel_rfl) (by kernel_rfl) (by kernel_rfl) (by decide) (by kernel_rfl) (by kernel_rfl) (by decide) (by decide)
theorem pr_31757755568855353 : Pr 31757755568855353 :=
  pock2m (q := 430751) (q' := 4153) (a := 2) (m := 73726481352) (m' := 7646943310584) (x := 15280470251845350) (x' := 28256283979054930) (f := 56) (by decide) pr_430751 (by decide) (by decide) pr_4153 (by decide) (by decide) (by decide) (by decide) (by decide) (by decide) (by kernel_rfl) (by kernel_rfl) (by kernel_rfl) (by decide) (by kernel_rfl) (by kernel_rfl) (by decide) (by decide)
theorem pr_74058212732561358302231226437062788676166966415465897661863160754340907 : Pr 74058212732561358302231226437062788676166966415465897661863160754340907 :=
  pock2m (q := 75445702479781427272750846543864801) (q' := 31757755568855353) (a := 2) (m := 981609426360740691344999861639072106) (m' := 2331972502653487852620185443007392165117953542933313402) (x := 69490809710348678725736597923071784769591275419387514694139338586948360) (x' := 50366660687963342066214195241331738400016478712605795091965648721912165) (f := 237) (by decide) pr_75445702479781427272750846543864801 (by decide) (by decide) pr_31757755568855353 (by decide) (by decide) (by decide) (by decide) (by decide) (by decide) (by kernel_rfl) (by kernel_rfl) (by kernel_rfl) (by decide) (by kernel_rfl) (by kernel_rfl) (by decide) (by decide)
theorem pr_57896044618658097711785492504343953926634992332820282019728792003956564819949 : Pr 57896044618658097711785492504343953926634992332820282019728792003956564819949 :=
  pock1m (q := 74058212732561358302231226437062788676166966415465897661863160754340907) (a := 2) (m := 781764) (x := 427094198651976259540344842774561673889945192655078505504941250475370961481) (f := 256) (by decide) pr_74058212732561358302231226437062788676166966415465897661863160754340907 (by decide) (by decide) (by decide) (by decide) (by kernel_rfl) (by kernel_rfl) (by kernel_rfl) (by decide) (by decide)

end Go.Num

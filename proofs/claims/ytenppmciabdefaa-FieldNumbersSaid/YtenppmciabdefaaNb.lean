/- 2^255 - 19 is prime; powers mod it. No condition. -/
import Derived.Test.YtenppmciabdefaaNa
namespace Go.Proofs.Ytenppmciabdefaa.Nt
theorem p127 : Pr 127 := trial_prime 11 (by decide) (by decide) (by decide +kernel)
theorem p65147 : Pr 65147 := trial_prime 255 (by decide) (by decide) (by decide +kernel)
theorem p75707 : Pr 75707 := trial_prime 275 (by decide) (by decide) (by decide +kernel)
theorem p1923133 : Pr 1923133 := trial_prime 1386 (by decide) (by decide) (by decide +kernel)
theorem p8574133 : Pr 8574133 := trial_prime 2928 (by decide) (by decide) (by decide +kernel)
theorem pA : Pr 1919519569386763 := pock_of 2 51 p8574133 p127 (by decide +kernel)
theorem pB : Pr 75445702479781427272750846543864801 := pock_of 7 116 pA p75707 (by decide +kernel)
theorem pC : Pr 74058212732561358302231226437062788676166966415465897661863160754340907 := pock_of 2 236 pB p1923133 (by decide +kernel)
theorem pP : Pr 57896044618658097711785492504343953926634992332820282019728792003956564819949 := pock_of 2 255 pC p65147 (by decide +kernel)
end Go.Proofs.Ytenppmciabdefaa.Nt

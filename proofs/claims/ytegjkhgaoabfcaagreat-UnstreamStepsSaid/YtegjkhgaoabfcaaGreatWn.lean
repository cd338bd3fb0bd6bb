/- Part 14 (a part of the proof of UnstreamSteps; no condition). -/
import Derived.Test.YtegjkhgaoabfcaaGreatWm
set_option maxRecDepth 1000000
namespace Go.Proofs.YtegjkhgaoabfcaaGreat
open Go.AE
def e_s11 : KE := ⟨83, none, [.string ⟨#[97, 98]⟩, .int .u32 3918790093], none, .string ⟨#[49, 49, 49, 48, 49, 48, 48, 49, 49, 48, 48, 49, 48, 48, 49, 49, 49, 49, 49, 49, 49, 49, 48, 49, 49, 49, 48, 48, 49, 49, 48, 49, 48, 48, 48, 48, 48, 48, 48, 48, 48, 48, 48, 48, 48, 48, 48, 48, 48, 48, 48, 48, 48, 48, 48, 48, 48, 48, 48, 48, 48, 48, 48, 49, 48, 48, 48, 48, 48, 48, 48, 48, 48, 48, 49, 49, 48, 48, 48, 48, 48, 48, 48, 48, 48, 48, 48, 48, 48, 48, 49, 48, 48, 48, 48, 48, 48, 48, 48, 48, 48, 48, 48, 48, 48, 48, 49, 48, 48, 48, 48, 49, 48, 48, 48, 48, 48, 48, 48, 48, 49, 48, 48, 48, 48, 48, 49, 48, 49, 48, 49, 49]⟩⟩
theorem k_s11 : KnownOk e_s11 := known_of (tab := [e_s1, e_s2, e_s3, e_s4, e_s5, e_s6, e_s7, e_s8, e_s9, e_s10, e_h1, e_h2, e_h3, e_h4]) (known_cons k_s1 (known_cons k_s2 (known_cons k_s3 (known_cons k_s4 (known_cons k_s5 (known_cons k_s6 (known_cons k_s7 (known_cons k_s8 (known_cons k_s9 (known_cons k_s10 (known_cons k_h1 (known_cons k_h2 (known_cons k_h3 (known_cons k_h4 known_nil)))))))))))))) (n := 600) (by kernel_rfl)
end Go.Proofs.YtegjkhgaoabfcaaGreat

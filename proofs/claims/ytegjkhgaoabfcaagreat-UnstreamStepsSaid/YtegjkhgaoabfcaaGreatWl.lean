/- Part 12 (a part of the proof of UnstreamSteps; no condition). -/
import Derived.Test.YtegjkhgaoabfcaaGreatWk
set_option maxRecDepth 1000000
namespace Go.Proofs.YtegjkhgaoabfcaaGreat
open Go.AE
def e_s1 : KE := ⟨165, none, [.string ⟨#[98, 97]⟩], none, .string ⟨#[97, 98]⟩⟩
theorem k_s1 : KnownOk e_s1 := known_of (tab := []) known_nil (n := 600) (by kernel_rfl)
def e_s2 : KE := ⟨165, none, [.string ⟨#[97, 98]⟩], none, .string ⟨#[97, 98]⟩⟩
theorem k_s2 : KnownOk e_s2 := known_of (tab := []) known_nil (n := 600) (by kernel_rfl)
def e_s3 : KE := ⟨180, none, [.string ⟨#[97, 98]⟩], none, .bool true⟩
theorem k_s3 : KnownOk e_s3 := known_of (tab := [e_s1, e_s2]) (known_cons k_s1 (known_cons k_s2 known_nil)) (n := 600) (by kernel_rfl)
def e_s4 : KE := ⟨168, none, [.string ⟨#[97, 98]⟩], none, .string ⟨#[48, 48, 48, 48, 48, 48, 49, 48, 48, 48, 48, 48, 48, 48, 48, 48, 48, 49, 49, 48, 48, 48, 48, 48, 48, 48, 48, 48, 48, 48, 48, 48]⟩⟩
theorem k_s4 : KnownOk e_s4 := known_of (tab := [e_s1, e_s2, e_s3]) (known_cons k_s1 (known_cons k_s2 (known_cons k_s3 known_nil))) (n := 600) (by kernel_rfl)
end Go.Proofs.YtegjkhgaoabfcaaGreat

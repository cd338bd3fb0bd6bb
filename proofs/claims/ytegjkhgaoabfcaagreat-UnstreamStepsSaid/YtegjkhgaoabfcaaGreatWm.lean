/- Part 13 (a part of the proof of UnstreamSteps; no condition). -/
import Derived.Test.YtegjkhgaoabfcaaGreatWl
set_option maxRecDepth 1000000
namespace Go.Proofs.YtegjkhgaoabfcaaGreat
open Go.AE
def e_h1 : KE := ⟨215, some (3, [.int .i64 0, .int .i64 0, .int .i64 2, .int .i64 1]), [], some (3, [.int .i64 2, .int .i64 2, .int .i64 2, .int .i64 2]), undef⟩
theorem k_h1 : KnownOk e_h1 := known_h (tab := []) known_nil (n := 600) (by kernel_rfl)
def e_h2 : KE := ⟨215, some (3, [.int .i64 0, .int .i64 0, .int .i64 0, .int .i64 0]), [], some (3, [.int .i64 2, .int .i64 2, .int .i64 2, .int .i64 2]), undef⟩
theorem k_h2 : KnownOk e_h2 := known_h (tab := []) known_nil (n := 600) (by kernel_rfl)
def e_s5 : KE := ⟨126, none, [.string ⟨#[97, 98]⟩], none, .agg #[.string ⟨#[98, 97]⟩, .int .i64 0]⟩
theorem k_s5 : KnownOk e_s5 := known_of (tab := []) known_nil (n := 600) (by kernel_rfl)
def e_s6 : KE := ⟨110, none, [.int .u32 3918790093, .int .i64 32], none, .string ⟨#[49, 49, 49, 48, 49, 48, 48, 49, 49, 48, 48, 49, 48, 48, 49, 49, 49, 49, 49, 49, 49, 49, 48, 49, 49, 49, 48, 48, 49, 49, 48, 49]⟩⟩
theorem k_s6 : KnownOk e_s6 := known_of (tab := []) known_nil (n := 600) (by kernel_rfl)
def e_s7 : KE := ⟨110, none, [.int .u32 0, .int .i64 24], none, .string ⟨#[48, 48, 48, 48, 48, 48, 48, 48, 48, 48, 48, 48, 48, 48, 48, 48, 48, 48, 48, 48, 48, 48, 48, 48]⟩⟩
theorem k_s7 : KnownOk e_s7 := known_of (tab := []) known_nil (n := 600) (by kernel_rfl)
def e_s8 : KE := ⟨110, none, [.int .u32 2, .int .i64 3], none, .string ⟨#[48, 49, 48]⟩⟩
theorem k_s8 : KnownOk e_s8 := known_of (tab := []) known_nil (n := 600) (by kernel_rfl)
def e_s9 : KE := ⟨110, none, [.int .u32 1, .int .i64 15], none, .string ⟨#[48, 48, 48, 48, 48, 48, 48, 48, 48, 48, 48, 48, 48, 48, 49]⟩⟩
theorem k_s9 : KnownOk e_s9 := known_of (tab := []) known_nil (n := 600) (by kernel_rfl)
def e_s10 : KE := ⟨110, none, [.int .u32 2, .int .i64 5], none, .string ⟨#[48, 48, 48, 49, 48]⟩⟩
theorem k_s10 : KnownOk e_s10 := known_of (tab := []) known_nil (n := 600) (by kernel_rfl)
def e_h3 : KE := ⟨192, some (3, [.int .i64 2, .int .i64 2, .int .i64 2, .int .i64 2]), [], none, .string ⟨#[48, 48, 48, 49, 48, 48, 48, 48, 48]⟩⟩
theorem k_h3 : KnownOk e_h3 := known_h (tab := [e_s10]) (known_cons k_s10 known_nil) (n := 600) (by kernel_rfl)
def e_h4 : KE := ⟨193, some (3, [.int .i64 2, .int .i64 2, .int .i64 2, .int .i64 2]), [], some (9, [.string ⟨#[48, 48]⟩, .string ⟨#[48, 49]⟩, .string ⟨#[49, 48]⟩, .string ⟨#[49, 49]⟩]), undef⟩
theorem k_h4 : KnownOk e_h4 := known_h (tab := []) known_nil (n := 600) (by kernel_rfl)
end Go.Proofs.YtegjkhgaoabfcaaGreat

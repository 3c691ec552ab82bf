/- Murmur's last turns of 64 bits. No program in sight. -/
import Derived.Test.YtdemhnkkohnfladMixPlain
namespace Go.Proofs.Ytdemhnkkohnflad
set_option linter.unusedVariables false
set_option linter.unusedSimpArgs false
/-- Murmur's last turns of 64 bits. -/
def fmix64 (h : BitVec 64) : BitVec 64 :=
  ((h ^^^ h / 8589934592#64) * 18397679294719823053#64 ^^^ (h ^^^ h / 8589934592#64) * 18397679294719823053#64 / 8589934592#64) * 14181476777654086739#64 ^^^
    ((h ^^^ h / 8589934592#64) * 18397679294719823053#64 ^^^ (h ^^^ h / 8589934592#64) * 18397679294719823053#64 / 8589934592#64) * 14181476777654086739#64 / 8589934592#64
theorem fmix64_def (h : BitVec 64) : ((h ^^^ h / 8589934592#64) * 18397679294719823053#64 ^^^ (h ^^^ h / 8589934592#64) * 18397679294719823053#64 / 8589934592#64) * 14181476777654086739#64 ^^^
    ((h ^^^ h / 8589934592#64) * 18397679294719823053#64 ^^^ (h ^^^ h / 8589934592#64) * 18397679294719823053#64 / 8589934592#64) * 14181476777654086739#64 / 8589934592#64 = fmix64 h := rfl
theorem shr33 (x : BitVec 64) : x >>> 33 = x / 8589934592#64 := (div_shr64 x _ 33 (by rfl)).symm
end Go.Proofs.Ytdemhnkkohnflad

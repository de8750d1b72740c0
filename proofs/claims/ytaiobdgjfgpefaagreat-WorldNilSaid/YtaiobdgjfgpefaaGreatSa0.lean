/- Calls run apart, at the values that they have there. -/
import Derived.Test.YtaiobdgjfgpefaaGreatPok
namespace Go.Proofs.YtaiobdgjfgpefaaGreat
open Go Go.Eng
def s0 : Seg where
  g := 387
  args := [(.agg ⟨[(.bool false), (.int .u64 (.ofNat 0)), (.int .u64 (.ofNat 281474976710656))]⟩), (.int .u64 (.ofNat 65536))]
  n := 86
  pre := []
  v := (.agg ⟨[(.bool false), (.int .u64 (.ofNat 0)), (.int .u64 (.ofNat 4294967296))]⟩)
  n' := 89
  post := []
theorem s0ok : segOK s0 = true := by kernel_rfl
theorem s0run : segRun (callFF Tryz.prog ⟨316, 318⟩ (fun _ => none) 100000 150 s0.g s0.args (mem s0.n s0.pre)) s0 = true := by kernel_rfl
theorem s0good : SegGood Tryz.prog s0 := segGood pok (noPrim _) s0ok s0run
def s1 : Seg where
  g := 387
  args := [(.agg ⟨[(.bool false), (.int .u64 (.ofNat 1)), (.int .u64 (.ofNat 0))]⟩), (.int .u64 (.ofNat 13493037704))]
  n := 101
  pre := []
  v := (.agg ⟨[(.bool false), (.int .u64 (.ofNat 0)), (.int .u64 (.ofNat 1367130551))]⟩)
  n' := 104
  post := []
theorem s1ok : segOK s1 = true := by kernel_rfl
theorem s1run : segRun (callFF Tryz.prog ⟨316, 318⟩ (fun _ => none) 100000 150 s1.g s1.args (mem s1.n s1.pre)) s1 = true := by kernel_rfl
theorem s1good : SegGood Tryz.prog s1 := segGood pok (noPrim _) s1ok s1run
def s2 : Seg where
  g := 387
  args := [(.agg ⟨[(.bool false), (.int .u64 (.ofNat 0)), (.int .u64 (.ofNat 5871781005907460096))]⟩), (.int .u64 (.ofNat 4294967296))]
  n := 117
  pre := []
  v := (.agg ⟨[(.bool false), (.int .u64 (.ofNat 0)), (.int .u64 (.ofNat 1367130551))]⟩)
  n' := 120
  post := []
theorem s2ok : segOK s2 = true := by kernel_rfl
theorem s2run : segRun (callFF Tryz.prog ⟨316, 318⟩ (fun _ => none) 100000 150 s2.g s2.args (mem s2.n s2.pre)) s2 = true := by kernel_rfl
theorem s2good : SegGood Tryz.prog s2 := segGood pok (noPrim _) s2ok s2run
end Go.Proofs.YtaiobdgjfgpefaaGreat

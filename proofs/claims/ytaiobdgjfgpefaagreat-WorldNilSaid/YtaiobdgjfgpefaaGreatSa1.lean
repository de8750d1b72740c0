/- Calls run apart, at the values that they have there. -/
import Derived.Test.YtaiobdgjfgpefaaGreatPok
namespace Go.Proofs.YtaiobdgjfgpefaaGreat
open Go Go.Eng
def s3 : Seg where
  g := 387
  args := [(.agg ⟨[(.bool false), (.int .u64 (.ofNat 2)), (.int .u64 (.ofNat 0))]⟩), (.int .u64 (.ofNat 4294967296))]
  n := 128
  pre := []
  v := (.agg ⟨[(.bool false), (.int .u64 (.ofNat 0)), (.int .u64 (.ofNat 8589934592))]⟩)
  n' := 131
  post := []
theorem s3ok : segOK s3 = true := by kernel_rfl
theorem s3run : segRun (callFF Tryz.prog ⟨316, 318⟩ (fun _ => none) 100000 150 s3.g s3.args (mem s3.n s3.pre)) s3 = true := by kernel_rfl
theorem s3good : SegGood Tryz.prog s3 := segGood pok (noPrim _) s3ok s3run
def s4 : Seg where
  g := 387
  args := [(.agg ⟨[(.bool false), (.int .u64 (.ofNat 2)), (.int .u64 (.ofNat 0))]⟩), (.int .u64 (.ofNat 13493037704))]
  n := 143
  pre := []
  v := (.agg ⟨[(.bool false), (.int .u64 (.ofNat 0)), (.int .u64 (.ofNat 2734261102))]⟩)
  n' := 146
  post := []
theorem s4ok : segOK s4 = true := by kernel_rfl
theorem s4run : segRun (callFF Tryz.prog ⟨316, 318⟩ (fun _ => none) 100000 150 s4.g s4.args (mem s4.n s4.pre)) s4 = true := by kernel_rfl
theorem s4good : SegGood Tryz.prog s4 := segGood pok (noPrim _) s4ok s4run
def s5 : Seg where
  g := 387
  args := [(.agg ⟨[(.bool false), (.int .u64 (.ofNat 0)), (.int .u64 (.ofNat 11743562011814920192))]⟩), (.int .u64 (.ofNat 4294967296))]
  n := 159
  pre := []
  v := (.agg ⟨[(.bool false), (.int .u64 (.ofNat 0)), (.int .u64 (.ofNat 2734261102))]⟩)
  n' := 162
  post := []
theorem s5ok : segOK s5 = true := by kernel_rfl
theorem s5run : segRun (callFF Tryz.prog ⟨316, 318⟩ (fun _ => none) 100000 150 s5.g s5.args (mem s5.n s5.pre)) s5 = true := by kernel_rfl
theorem s5good : SegGood Tryz.prog s5 := segGood pok (noPrim _) s5ok s5run
end Go.Proofs.YtaiobdgjfgpefaaGreat

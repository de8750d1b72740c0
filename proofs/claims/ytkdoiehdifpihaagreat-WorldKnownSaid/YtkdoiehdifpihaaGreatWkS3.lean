/- WorldKnown's run: calls run apart, at the values that they have there. -/
import Derived.Test.YtkdoiehdifpihaaGreatWkS2
namespace Go.Proofs.YtkdoiehdifpihaaGreat.Wk
open Go Go.Eng
def s5 : Seg :=
  ⟨79,
   [(.agg ⟨[(iv 2), (iv 0), (iv 256), (iv 256), (.slice none 0 0), (iv 8589934592), (.bool false), (iv 0), (.bool false), (iv 4294967296), (.bool false), (iv 0), (.bool false), (iv 0), (.bool false), (iv 0), (.bool false), (iv 0), (.bool false), (iv 0), (.bool false), (iv 0), (.bool false), (iv 0), (.bool false), (.bool false), (iv 1)]⟩), (.agg ⟨[(iv 1), (iv 256), (iv 0), (iv 0), (.slice none 0 0), (iv 0), (.bool false), (iv 0), (.bool false), (iv 4294967296), (.bool false), (iv 0), (.bool false), (iv 0), (.bool false), (iv 0), (.bool false), (iv 0), (.bool false), (iv 1367130551), (.bool false), (iv 2734261102), (.bool false), (iv 0), (.bool false), (.bool false), (iv 1)]⟩)],
   1775,
   [],
   (.tuple ⟨[(.agg ⟨[(nv 4294967295), (.bool false), (iv 0), (.bool false), (.slice (some ⟨2025, 0, none⟩) 1 1)]⟩), (.bool true)]⟩),
   2026,
   [(2025, (.cells [(iv 4294967296), (.bool false), (iv 0), (.bool false), (iv 0), (.bool false)]))]⟩
theorem s5ok : segOK s5 = true := by kernel_rfl
theorem s5run : segRun (callM Tryz.prog ⟨304, 306, 1000000⟩ (prims189) ts km kr 100000 150 s5.g s5.args (mem s5.n s5.pre)) s5 = true := by kernel_rfl
theorem s5good : SegGood Tryz.prog s5 := segGoodM (callM_sound pok prims189OK tsk km kr 100000 150) s5ok s5run
def segs79 : List Seg := [s0, s1, s2, s3, s4, s5]
theorem segs79Good : ∀ s ∈ segs79, SegGood Tryz.prog s := (List.forall_mem_cons.2 ⟨s0good, (List.forall_mem_cons.2 ⟨s1good, (List.forall_mem_cons.2 ⟨s2good, (List.forall_mem_cons.2 ⟨s3good, (List.forall_mem_cons.2 ⟨s4good, (List.forall_mem_cons.2 ⟨s5good, (fun _ h => by cases h)⟩)⟩)⟩)⟩)⟩)⟩)
noncomputable def prims79 : PrimT := primOr (segPrim [79] segs79) (prims189)
theorem prims79OK : PrimOK Tryz.prog prims79 := primOr_ok (segPrim_ok segs79Good) prims189OK
end Go.Proofs.YtkdoiehdifpihaaGreat.Wk

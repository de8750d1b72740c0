/- The runs, told together. -/
import Derived.Test.YtgddinljekkhdaaGreatXR00
import Derived.Test.YtgddinljekkhdaaGreatXR01
import Derived.Test.YtgddinljekkhdaaGreatXR10
import Derived.Test.YtgddinljekkhdaaGreatXR11
import Derived.Test.YtgddinljekkhdaaGreatXR20
import Derived.Test.YtgddinljekkhdaaGreatXR21
import Derived.Test.YtgddinljekkhdaaGreatXR30
import Derived.Test.YtgddinljekkhdaaGreatXR31
import Derived.Test.YtgddinljekkhdaaGreatXM
set_option linter.unusedSimpArgs false
set_option linter.unusedVariables false
namespace Go.Proofs.YtgddinljekkhdaaGreat.U
open Go Go.Eng
set_option maxRecDepth 100000
theorem ge0 {G G2 M M2 R R2 t v0 v1 v2 v3 v4 v5 v6 : Value} (h1 : G = G2) (h2 : M = M2) (h3 : R = R2) (h : go0 G2 M2 R2 t v0 v1 v2 v3 v4 v5 v6 = some true) : go0 G M R t v0 v1 v2 v3 v4 v5 v6 = some true := by rw [h1, h2, h3]; exact h
theorem gs0 (g : Bool) (m r : Nat) (hm : m < 6) (hr : r < 4) (k : Nat) (v0 v1 v2 v3 v4 v5 v6 : Value) : go0 (gv g) (.int .i64 ((m + 1 : Nat) : Int)) (.int .i64 ((r + 1 : Nat) : Int)) (.int .i64 (.ofNat (Nat.succ k))) v0 v1 v2 v3 v4 v5 v6 = some true := by
  cases g
  · match r, hr with
    | 0, _ =>
      have h0 := r001 k v0 v1 v2 v3 v4 v5 v6
      have h1 := Bool.and_eq_true_iff.1 h0
      have h2 := Bool.and_eq_true_iff.1 h1.1
      have h3 := Bool.and_eq_true_iff.1 h2.1
      have h4 := Bool.and_eq_true_iff.1 h3.1
      have h5 := Bool.and_eq_true_iff.1 h4.1
      match m, hm with
      | 0, _ => exact ge0 rfl rfl rfl (isB_eq h5.1)
      | 1, _ => exact ge0 rfl rfl rfl (isB_eq h5.2)
      | 2, _ => exact ge0 rfl rfl rfl (isB_eq h4.2)
      | 3, _ => exact ge0 rfl rfl rfl (isB_eq h3.2)
      | 4, _ => exact ge0 rfl rfl rfl (isB_eq h2.2)
      | 5, _ => exact ge0 rfl rfl rfl (isB_eq h1.2)
    | 1, _ =>
      have h0 := r002 k v0 v1 v2 v3 v4 v5 v6
      have h1 := Bool.and_eq_true_iff.1 h0
      have h2 := Bool.and_eq_true_iff.1 h1.1
      have h3 := Bool.and_eq_true_iff.1 h2.1
      have h4 := Bool.and_eq_true_iff.1 h3.1
      have h5 := Bool.and_eq_true_iff.1 h4.1
      match m, hm with
      | 0, _ => exact ge0 rfl rfl rfl (isB_eq h5.1)
      | 1, _ => exact ge0 rfl rfl rfl (isB_eq h5.2)
      | 2, _ => exact ge0 rfl rfl rfl (isB_eq h4.2)
      | 3, _ => exact ge0 rfl rfl rfl (isB_eq h3.2)
      | 4, _ => exact ge0 rfl rfl rfl (isB_eq h2.2)
      | 5, _ => exact ge0 rfl rfl rfl (isB_eq h1.2)
    | 2, _ =>
      have h0 := r003 k v0 v1 v2 v3 v4 v5 v6
      have h1 := Bool.and_eq_true_iff.1 h0
      have h2 := Bool.and_eq_true_iff.1 h1.1
      have h3 := Bool.and_eq_true_iff.1 h2.1
      have h4 := Bool.and_eq_true_iff.1 h3.1
      have h5 := Bool.and_eq_true_iff.1 h4.1
      match m, hm with
      | 0, _ => exact ge0 rfl rfl rfl (isB_eq h5.1)
      | 1, _ => exact ge0 rfl rfl rfl (isB_eq h5.2)
      | 2, _ => exact ge0 rfl rfl rfl (isB_eq h4.2)
      | 3, _ => exact ge0 rfl rfl rfl (isB_eq h3.2)
      | 4, _ => exact ge0 rfl rfl rfl (isB_eq h2.2)
      | 5, _ => exact ge0 rfl rfl rfl (isB_eq h1.2)
    | 3, _ =>
      have h0 := r004 k v0 v1 v2 v3 v4 v5 v6
      have h1 := Bool.and_eq_true_iff.1 h0
      have h2 := Bool.and_eq_true_iff.1 h1.1
      have h3 := Bool.and_eq_true_iff.1 h2.1
      have h4 := Bool.and_eq_true_iff.1 h3.1
      have h5 := Bool.and_eq_true_iff.1 h4.1
      match m, hm with
      | 0, _ => exact ge0 rfl rfl rfl (isB_eq h5.1)
      | 1, _ => exact ge0 rfl rfl rfl (isB_eq h5.2)
      | 2, _ => exact ge0 rfl rfl rfl (isB_eq h4.2)
      | 3, _ => exact ge0 rfl rfl rfl (isB_eq h3.2)
      | 4, _ => exact ge0 rfl rfl rfl (isB_eq h2.2)
      | 5, _ => exact ge0 rfl rfl rfl (isB_eq h1.2)
  · match r, hr with
    | 0, _ =>
      have h0 := r011 k v0 v1 v2 v3 v4 v5 v6
      have h1 := Bool.and_eq_true_iff.1 h0
      have h2 := Bool.and_eq_true_iff.1 h1.1
      have h3 := Bool.and_eq_true_iff.1 h2.1
      have h4 := Bool.and_eq_true_iff.1 h3.1
      have h5 := Bool.and_eq_true_iff.1 h4.1
      match m, hm with
      | 0, _ => exact ge0 rfl rfl rfl (isB_eq h5.1)
      | 1, _ => exact ge0 rfl rfl rfl (isB_eq h5.2)
      | 2, _ => exact ge0 rfl rfl rfl (isB_eq h4.2)
      | 3, _ => exact ge0 rfl rfl rfl (isB_eq h3.2)
      | 4, _ => exact ge0 rfl rfl rfl (isB_eq h2.2)
      | 5, _ => exact ge0 rfl rfl rfl (isB_eq h1.2)
    | 1, _ =>
      have h0 := r012 k v0 v1 v2 v3 v4 v5 v6
      have h1 := Bool.and_eq_true_iff.1 h0
      have h2 := Bool.and_eq_true_iff.1 h1.1
      have h3 := Bool.and_eq_true_iff.1 h2.1
      have h4 := Bool.and_eq_true_iff.1 h3.1
      have h5 := Bool.and_eq_true_iff.1 h4.1
      match m, hm with
      | 0, _ => exact ge0 rfl rfl rfl (isB_eq h5.1)
      | 1, _ => exact ge0 rfl rfl rfl (isB_eq h5.2)
      | 2, _ => exact ge0 rfl rfl rfl (isB_eq h4.2)
      | 3, _ => exact ge0 rfl rfl rfl (isB_eq h3.2)
      | 4, _ => exact ge0 rfl rfl rfl (isB_eq h2.2)
      | 5, _ => exact ge0 rfl rfl rfl (isB_eq h1.2)
    | 2, _ =>
      have h0 := r013 k v0 v1 v2 v3 v4 v5 v6
      have h1 := Bool.and_eq_true_iff.1 h0
      have h2 := Bool.and_eq_true_iff.1 h1.1
      have h3 := Bool.and_eq_true_iff.1 h2.1
      have h4 := Bool.and_eq_true_iff.1 h3.1
      have h5 := Bool.and_eq_true_iff.1 h4.1
      match m, hm with
      | 0, _ => exact ge0 rfl rfl rfl (isB_eq h5.1)
      | 1, _ => exact ge0 rfl rfl rfl (isB_eq h5.2)
      | 2, _ => exact ge0 rfl rfl rfl (isB_eq h4.2)
      | 3, _ => exact ge0 rfl rfl rfl (isB_eq h3.2)
      | 4, _ => exact ge0 rfl rfl rfl (isB_eq h2.2)
      | 5, _ => exact ge0 rfl rfl rfl (isB_eq h1.2)
    | 3, _ =>
      have h0 := r014 k v0 v1 v2 v3 v4 v5 v6
      have h1 := Bool.and_eq_true_iff.1 h0
      have h2 := Bool.and_eq_true_iff.1 h1.1
      have h3 := Bool.and_eq_true_iff.1 h2.1
      have h4 := Bool.and_eq_true_iff.1 h3.1
      have h5 := Bool.and_eq_true_iff.1 h4.1
      match m, hm with
      | 0, _ => exact ge0 rfl rfl rfl (isB_eq h5.1)
      | 1, _ => exact ge0 rfl rfl rfl (isB_eq h5.2)
      | 2, _ => exact ge0 rfl rfl rfl (isB_eq h4.2)
      | 3, _ => exact ge0 rfl rfl rfl (isB_eq h3.2)
      | 4, _ => exact ge0 rfl rfl rfl (isB_eq h2.2)
      | 5, _ => exact ge0 rfl rfl rfl (isB_eq h1.2)
theorem ge1 {G G2 M M2 R R2 t v0 v1 v2 v3 v4 v5 v6 : Value} (h1 : G = G2) (h2 : M = M2) (h3 : R = R2) (h : go1 G2 M2 R2 t v0 v1 v2 v3 v4 v5 v6 = some true) : go1 G M R t v0 v1 v2 v3 v4 v5 v6 = some true := by rw [h1, h2, h3]; exact h
theorem gs1 (g : Bool) (m r : Nat) (hm : m < 6) (hr : r < 4) (k : Nat) (v0 v1 v2 v3 v4 v5 v6 : Value) : go1 (gv g) (.int .i64 ((m + 1 : Nat) : Int)) (.int .i64 ((r + 1 : Nat) : Int)) (.int .i64 (.ofNat (Nat.succ k))) v0 v1 v2 v3 v4 v5 v6 = some true := by
  cases g
  · match r, hr with
    | 0, _ =>
      have h0 := r101 k v0 v1 v2 v3 v4 v5 v6
      have h1 := Bool.and_eq_true_iff.1 h0
      have h2 := Bool.and_eq_true_iff.1 h1.1
      have h3 := Bool.and_eq_true_iff.1 h2.1
      have h4 := Bool.and_eq_true_iff.1 h3.1
      have h5 := Bool.and_eq_true_iff.1 h4.1
      match m, hm with
      | 0, _ => exact ge1 rfl rfl rfl (isB_eq h5.1)
      | 1, _ => exact ge1 rfl rfl rfl (isB_eq h5.2)
      | 2, _ => exact ge1 rfl rfl rfl (isB_eq h4.2)
      | 3, _ => exact ge1 rfl rfl rfl (isB_eq h3.2)
      | 4, _ => exact ge1 rfl rfl rfl (isB_eq h2.2)
      | 5, _ => exact ge1 rfl rfl rfl (isB_eq h1.2)
    | 1, _ =>
      have h0 := r102 k v0 v1 v2 v3 v4 v5 v6
      have h1 := Bool.and_eq_true_iff.1 h0
      have h2 := Bool.and_eq_true_iff.1 h1.1
      have h3 := Bool.and_eq_true_iff.1 h2.1
      have h4 := Bool.and_eq_true_iff.1 h3.1
      have h5 := Bool.and_eq_true_iff.1 h4.1
      match m, hm with
      | 0, _ => exact ge1 rfl rfl rfl (isB_eq h5.1)
      | 1, _ => exact ge1 rfl rfl rfl (isB_eq h5.2)
      | 2, _ => exact ge1 rfl rfl rfl (isB_eq h4.2)
      | 3, _ => exact ge1 rfl rfl rfl (isB_eq h3.2)
      | 4, _ => exact ge1 rfl rfl rfl (isB_eq h2.2)
      | 5, _ => exact ge1 rfl rfl rfl (isB_eq h1.2)
    | 2, _ =>
      have h0 := r103 k v0 v1 v2 v3 v4 v5 v6
      have h1 := Bool.and_eq_true_iff.1 h0
      have h2 := Bool.and_eq_true_iff.1 h1.1
      have h3 := Bool.and_eq_true_iff.1 h2.1
      have h4 := Bool.and_eq_true_iff.1 h3.1
      have h5 := Bool.and_eq_true_iff.1 h4.1
      match m, hm with
      | 0, _ => exact ge1 rfl rfl rfl (isB_eq h5.1)
      | 1, _ => exact ge1 rfl rfl rfl (isB_eq h5.2)
      | 2, _ => exact ge1 rfl rfl rfl (isB_eq h4.2)
      | 3, _ => exact ge1 rfl rfl rfl (isB_eq h3.2)
      | 4, _ => exact ge1 rfl rfl rfl (isB_eq h2.2)
      | 5, _ => exact ge1 rfl rfl rfl (isB_eq h1.2)
    | 3, _ =>
      have h0 := r104 k v0 v1 v2 v3 v4 v5 v6
      have h1 := Bool.and_eq_true_iff.1 h0
      have h2 := Bool.and_eq_true_iff.1 h1.1
      have h3 := Bool.and_eq_true_iff.1 h2.1
      have h4 := Bool.and_eq_true_iff.1 h3.1
      have h5 := Bool.and_eq_true_iff.1 h4.1
      match m, hm with
      | 0, _ => exact ge1 rfl rfl rfl (isB_eq h5.1)
      | 1, _ => exact ge1 rfl rfl rfl (isB_eq h5.2)
      | 2, _ => exact ge1 rfl rfl rfl (isB_eq h4.2)
      | 3, _ => exact ge1 rfl rfl rfl (isB_eq h3.2)
      | 4, _ => exact ge1 rfl rfl rfl (isB_eq h2.2)
      | 5, _ => exact ge1 rfl rfl rfl (isB_eq h1.2)
  · match r, hr with
    | 0, _ =>
      have h0 := r111 k v0 v1 v2 v3 v4 v5 v6
      have h1 := Bool.and_eq_true_iff.1 h0
      have h2 := Bool.and_eq_true_iff.1 h1.1
      have h3 := Bool.and_eq_true_iff.1 h2.1
      have h4 := Bool.and_eq_true_iff.1 h3.1
      have h5 := Bool.and_eq_true_iff.1 h4.1
      match m, hm with
      | 0, _ => exact ge1 rfl rfl rfl (isB_eq h5.1)
      | 1, _ => exact ge1 rfl rfl rfl (isB_eq h5.2)
      | 2, _ => exact ge1 rfl rfl rfl (isB_eq h4.2)
      | 3, _ => exact ge1 rfl rfl rfl (isB_eq h3.2)
      | 4, _ => exact ge1 rfl rfl rfl (isB_eq h2.2)
      | 5, _ => exact ge1 rfl rfl rfl (isB_eq h1.2)
    | 1, _ =>
      have h0 := r112 k v0 v1 v2 v3 v4 v5 v6
      have h1 := Bool.and_eq_true_iff.1 h0
      have h2 := Bool.and_eq_true_iff.1 h1.1
      have h3 := Bool.and_eq_true_iff.1 h2.1
      have h4 := Bool.and_eq_true_iff.1 h3.1
      have h5 := Bool.and_eq_true_iff.1 h4.1
      match m, hm with
      | 0, _ => exact ge1 rfl rfl rfl (isB_eq h5.1)
      | 1, _ => exact ge1 rfl rfl rfl (isB_eq h5.2)
      | 2, _ => exact ge1 rfl rfl rfl (isB_eq h4.2)
      | 3, _ => exact ge1 rfl rfl rfl (isB_eq h3.2)
      | 4, _ => exact ge1 rfl rfl rfl (isB_eq h2.2)
      | 5, _ => exact ge1 rfl rfl rfl (isB_eq h1.2)
    | 2, _ =>
      have h0 := r113 k v0 v1 v2 v3 v4 v5 v6
      have h1 := Bool.and_eq_true_iff.1 h0
      have h2 := Bool.and_eq_true_iff.1 h1.1
      have h3 := Bool.and_eq_true_iff.1 h2.1
      have h4 := Bool.and_eq_true_iff.1 h3.1
      have h5 := Bool.and_eq_true_iff.1 h4.1
      match m, hm with
      | 0, _ => exact ge1 rfl rfl rfl (isB_eq h5.1)
      | 1, _ => exact ge1 rfl rfl rfl (isB_eq h5.2)
      | 2, _ => exact ge1 rfl rfl rfl (isB_eq h4.2)
      | 3, _ => exact ge1 rfl rfl rfl (isB_eq h3.2)
      | 4, _ => exact ge1 rfl rfl rfl (isB_eq h2.2)
      | 5, _ => exact ge1 rfl rfl rfl (isB_eq h1.2)
    | 3, _ =>
      have h0 := r114 k v0 v1 v2 v3 v4 v5 v6
      have h1 := Bool.and_eq_true_iff.1 h0
      have h2 := Bool.and_eq_true_iff.1 h1.1
      have h3 := Bool.and_eq_true_iff.1 h2.1
      have h4 := Bool.and_eq_true_iff.1 h3.1
      have h5 := Bool.and_eq_true_iff.1 h4.1
      match m, hm with
      | 0, _ => exact ge1 rfl rfl rfl (isB_eq h5.1)
      | 1, _ => exact ge1 rfl rfl rfl (isB_eq h5.2)
      | 2, _ => exact ge1 rfl rfl rfl (isB_eq h4.2)
      | 3, _ => exact ge1 rfl rfl rfl (isB_eq h3.2)
      | 4, _ => exact ge1 rfl rfl rfl (isB_eq h2.2)
      | 5, _ => exact ge1 rfl rfl rfl (isB_eq h1.2)
theorem ge2 {G G2 M M2 R R2 t v0 v1 v2 v3 v4 v5 v6 : Value} (h1 : G = G2) (h2 : M = M2) (h3 : R = R2) (h : go2 G2 M2 R2 t v0 v1 v2 v3 v4 v5 v6 = some true) : go2 G M R t v0 v1 v2 v3 v4 v5 v6 = some true := by rw [h1, h2, h3]; exact h
theorem gs2 (g : Bool) (m r : Nat) (hm : m < 6) (hr : r < 4) (k : Nat) (v0 v1 v2 v3 v4 v5 v6 : Value) : go2 (gv g) (.int .i64 ((m + 1 : Nat) : Int)) (.int .i64 ((r + 1 : Nat) : Int)) (.int .i64 (.ofNat (Nat.succ k))) v0 v1 v2 v3 v4 v5 v6 = some true := by
  cases g
  · match r, hr with
    | 0, _ =>
      have h0 := r201 k v0 v1 v2 v3 v4 v5 v6
      have h1 := Bool.and_eq_true_iff.1 h0
      have h2 := Bool.and_eq_true_iff.1 h1.1
      have h3 := Bool.and_eq_true_iff.1 h2.1
      have h4 := Bool.and_eq_true_iff.1 h3.1
      have h5 := Bool.and_eq_true_iff.1 h4.1
      match m, hm with
      | 0, _ => exact ge2 rfl rfl rfl (isB_eq h5.1)
      | 1, _ => exact ge2 rfl rfl rfl (isB_eq h5.2)
      | 2, _ => exact ge2 rfl rfl rfl (isB_eq h4.2)
      | 3, _ => exact ge2 rfl rfl rfl (isB_eq h3.2)
      | 4, _ => exact ge2 rfl rfl rfl (isB_eq h2.2)
      | 5, _ => exact ge2 rfl rfl rfl (isB_eq h1.2)
    | 1, _ =>
      have h0 := r202 k v0 v1 v2 v3 v4 v5 v6
      have h1 := Bool.and_eq_true_iff.1 h0
      have h2 := Bool.and_eq_true_iff.1 h1.1
      have h3 := Bool.and_eq_true_iff.1 h2.1
      have h4 := Bool.and_eq_true_iff.1 h3.1
      have h5 := Bool.and_eq_true_iff.1 h4.1
      match m, hm with
      | 0, _ => exact ge2 rfl rfl rfl (isB_eq h5.1)
      | 1, _ => exact ge2 rfl rfl rfl (isB_eq h5.2)
      | 2, _ => exact ge2 rfl rfl rfl (isB_eq h4.2)
      | 3, _ => exact ge2 rfl rfl rfl (isB_eq h3.2)
      | 4, _ => exact ge2 rfl rfl rfl (isB_eq h2.2)
      | 5, _ => exact ge2 rfl rfl rfl (isB_eq h1.2)
    | 2, _ =>
      have h0 := r203 k v0 v1 v2 v3 v4 v5 v6
      have h1 := Bool.and_eq_true_iff.1 h0
      have h2 := Bool.and_eq_true_iff.1 h1.1
      have h3 := Bool.and_eq_true_iff.1 h2.1
      have h4 := Bool.and_eq_true_iff.1 h3.1
      have h5 := Bool.and_eq_true_iff.1 h4.1
      match m, hm with
      | 0, _ => exact ge2 rfl rfl rfl (isB_eq h5.1)
      | 1, _ => exact ge2 rfl rfl rfl (isB_eq h5.2)
      | 2, _ => exact ge2 rfl rfl rfl (isB_eq h4.2)
      | 3, _ => exact ge2 rfl rfl rfl (isB_eq h3.2)
      | 4, _ => exact ge2 rfl rfl rfl (isB_eq h2.2)
      | 5, _ => exact ge2 rfl rfl rfl (isB_eq h1.2)
    | 3, _ =>
      have h0 := r204 k v0 v1 v2 v3 v4 v5 v6
      have h1 := Bool.and_eq_true_iff.1 h0
      have h2 := Bool.and_eq_true_iff.1 h1.1
      have h3 := Bool.and_eq_true_iff.1 h2.1
      have h4 := Bool.and_eq_true_iff.1 h3.1
      have h5 := Bool.and_eq_true_iff.1 h4.1
      match m, hm with
      | 0, _ => exact ge2 rfl rfl rfl (isB_eq h5.1)
      | 1, _ => exact ge2 rfl rfl rfl (isB_eq h5.2)
      | 2, _ => exact ge2 rfl rfl rfl (isB_eq h4.2)
      | 3, _ => exact ge2 rfl rfl rfl (isB_eq h3.2)
      | 4, _ => exact ge2 rfl rfl rfl (isB_eq h2.2)
      | 5, _ => exact ge2 rfl rfl rfl (isB_eq h1.2)
  · match r, hr with
    | 0, _ =>
      have h0 := r211 k v0 v1 v2 v3 v4 v5 v6
      have h1 := Bool.and_eq_true_iff.1 h0
      have h2 := Bool.and_eq_true_iff.1 h1.1
      have h3 := Bool.and_eq_true_iff.1 h2.1
      have h4 := Bool.and_eq_true_iff.1 h3.1
      have h5 := Bool.and_eq_true_iff.1 h4.1
      match m, hm with
      | 0, _ => exact ge2 rfl rfl rfl (isB_eq h5.1)
      | 1, _ => exact ge2 rfl rfl rfl (isB_eq h5.2)
      | 2, _ => exact ge2 rfl rfl rfl (isB_eq h4.2)
      | 3, _ => exact ge2 rfl rfl rfl (isB_eq h3.2)
      | 4, _ => exact ge2 rfl rfl rfl (isB_eq h2.2)
      | 5, _ => exact ge2 rfl rfl rfl (isB_eq h1.2)
    | 1, _ =>
      have h0 := r212 k v0 v1 v2 v3 v4 v5 v6
      have h1 := Bool.and_eq_true_iff.1 h0
      have h2 := Bool.and_eq_true_iff.1 h1.1
      have h3 := Bool.and_eq_true_iff.1 h2.1
      have h4 := Bool.and_eq_true_iff.1 h3.1
      have h5 := Bool.and_eq_true_iff.1 h4.1
      match m, hm with
      | 0, _ => exact ge2 rfl rfl rfl (isB_eq h5.1)
      | 1, _ => exact ge2 rfl rfl rfl (isB_eq h5.2)
      | 2, _ => exact ge2 rfl rfl rfl (isB_eq h4.2)
      | 3, _ => exact ge2 rfl rfl rfl (isB_eq h3.2)
      | 4, _ => exact ge2 rfl rfl rfl (isB_eq h2.2)
      | 5, _ => exact ge2 rfl rfl rfl (isB_eq h1.2)
    | 2, _ =>
      have h0 := r213 k v0 v1 v2 v3 v4 v5 v6
      have h1 := Bool.and_eq_true_iff.1 h0
      have h2 := Bool.and_eq_true_iff.1 h1.1
      have h3 := Bool.and_eq_true_iff.1 h2.1
      have h4 := Bool.and_eq_true_iff.1 h3.1
      have h5 := Bool.and_eq_true_iff.1 h4.1
      match m, hm with
      | 0, _ => exact ge2 rfl rfl rfl (isB_eq h5.1)
      | 1, _ => exact ge2 rfl rfl rfl (isB_eq h5.2)
      | 2, _ => exact ge2 rfl rfl rfl (isB_eq h4.2)
      | 3, _ => exact ge2 rfl rfl rfl (isB_eq h3.2)
      | 4, _ => exact ge2 rfl rfl rfl (isB_eq h2.2)
      | 5, _ => exact ge2 rfl rfl rfl (isB_eq h1.2)
    | 3, _ =>
      have h0 := r214 k v0 v1 v2 v3 v4 v5 v6
      have h1 := Bool.and_eq_true_iff.1 h0
      have h2 := Bool.and_eq_true_iff.1 h1.1
      have h3 := Bool.and_eq_true_iff.1 h2.1
      have h4 := Bool.and_eq_true_iff.1 h3.1
      have h5 := Bool.and_eq_true_iff.1 h4.1
      match m, hm with
      | 0, _ => exact ge2 rfl rfl rfl (isB_eq h5.1)
      | 1, _ => exact ge2 rfl rfl rfl (isB_eq h5.2)
      | 2, _ => exact ge2 rfl rfl rfl (isB_eq h4.2)
      | 3, _ => exact ge2 rfl rfl rfl (isB_eq h3.2)
      | 4, _ => exact ge2 rfl rfl rfl (isB_eq h2.2)
      | 5, _ => exact ge2 rfl rfl rfl (isB_eq h1.2)
theorem ge3 {G G2 M M2 R R2 t v0 v1 v2 v3 v4 v5 v6 : Value} (h1 : G = G2) (h2 : M = M2) (h3 : R = R2) (h : go3 G2 M2 R2 t v0 v1 v2 v3 v4 v5 v6 = some true) : go3 G M R t v0 v1 v2 v3 v4 v5 v6 = some true := by rw [h1, h2, h3]; exact h
theorem gs3 (g : Bool) (m r : Nat) (hm : m < 6) (hr : r < 4) (k : Nat) (v0 v1 v2 v3 v4 v5 v6 : Value) : go3 (gv g) (.int .i64 ((m + 1 : Nat) : Int)) (.int .i64 ((r + 1 : Nat) : Int)) (.int .i64 (.ofNat (Nat.succ k))) v0 v1 v2 v3 v4 v5 v6 = some true := by
  cases g
  · match r, hr with
    | 0, _ =>
      have h0 := r301 k v0 v1 v2 v3 v4 v5 v6
      have h1 := Bool.and_eq_true_iff.1 h0
      have h2 := Bool.and_eq_true_iff.1 h1.1
      have h3 := Bool.and_eq_true_iff.1 h2.1
      have h4 := Bool.and_eq_true_iff.1 h3.1
      have h5 := Bool.and_eq_true_iff.1 h4.1
      match m, hm with
      | 0, _ => exact ge3 rfl rfl rfl (isB_eq h5.1)
      | 1, _ => exact ge3 rfl rfl rfl (isB_eq h5.2)
      | 2, _ => exact ge3 rfl rfl rfl (isB_eq h4.2)
      | 3, _ => exact ge3 rfl rfl rfl (isB_eq h3.2)
      | 4, _ => exact ge3 rfl rfl rfl (isB_eq h2.2)
      | 5, _ => exact ge3 rfl rfl rfl (isB_eq h1.2)
    | 1, _ =>
      have h0 := r302 k v0 v1 v2 v3 v4 v5 v6
      have h1 := Bool.and_eq_true_iff.1 h0
      have h2 := Bool.and_eq_true_iff.1 h1.1
      have h3 := Bool.and_eq_true_iff.1 h2.1
      have h4 := Bool.and_eq_true_iff.1 h3.1
      have h5 := Bool.and_eq_true_iff.1 h4.1
      match m, hm with
      | 0, _ => exact ge3 rfl rfl rfl (isB_eq h5.1)
      | 1, _ => exact ge3 rfl rfl rfl (isB_eq h5.2)
      | 2, _ => exact ge3 rfl rfl rfl (isB_eq h4.2)
      | 3, _ => exact ge3 rfl rfl rfl (isB_eq h3.2)
      | 4, _ => exact ge3 rfl rfl rfl (isB_eq h2.2)
      | 5, _ => exact ge3 rfl rfl rfl (isB_eq h1.2)
    | 2, _ =>
      have h0 := r303 k v0 v1 v2 v3 v4 v5 v6
      have h1 := Bool.and_eq_true_iff.1 h0
      have h2 := Bool.and_eq_true_iff.1 h1.1
      have h3 := Bool.and_eq_true_iff.1 h2.1
      have h4 := Bool.and_eq_true_iff.1 h3.1
      have h5 := Bool.and_eq_true_iff.1 h4.1
      match m, hm with
      | 0, _ => exact ge3 rfl rfl rfl (isB_eq h5.1)
      | 1, _ => exact ge3 rfl rfl rfl (isB_eq h5.2)
      | 2, _ => exact ge3 rfl rfl rfl (isB_eq h4.2)
      | 3, _ => exact ge3 rfl rfl rfl (isB_eq h3.2)
      | 4, _ => exact ge3 rfl rfl rfl (isB_eq h2.2)
      | 5, _ => exact ge3 rfl rfl rfl (isB_eq h1.2)
    | 3, _ =>
      have h0 := r304 k v0 v1 v2 v3 v4 v5 v6
      have h1 := Bool.and_eq_true_iff.1 h0
      have h2 := Bool.and_eq_true_iff.1 h1.1
      have h3 := Bool.and_eq_true_iff.1 h2.1
      have h4 := Bool.and_eq_true_iff.1 h3.1
      have h5 := Bool.and_eq_true_iff.1 h4.1
      match m, hm with
      | 0, _ => exact ge3 rfl rfl rfl (isB_eq h5.1)
      | 1, _ => exact ge3 rfl rfl rfl (isB_eq h5.2)
      | 2, _ => exact ge3 rfl rfl rfl (isB_eq h4.2)
      | 3, _ => exact ge3 rfl rfl rfl (isB_eq h3.2)
      | 4, _ => exact ge3 rfl rfl rfl (isB_eq h2.2)
      | 5, _ => exact ge3 rfl rfl rfl (isB_eq h1.2)
  · match r, hr with
    | 0, _ =>
      have h0 := r311 k v0 v1 v2 v3 v4 v5 v6
      have h1 := Bool.and_eq_true_iff.1 h0
      have h2 := Bool.and_eq_true_iff.1 h1.1
      have h3 := Bool.and_eq_true_iff.1 h2.1
      have h4 := Bool.and_eq_true_iff.1 h3.1
      have h5 := Bool.and_eq_true_iff.1 h4.1
      match m, hm with
      | 0, _ => exact ge3 rfl rfl rfl (isB_eq h5.1)
      | 1, _ => exact ge3 rfl rfl rfl (isB_eq h5.2)
      | 2, _ => exact ge3 rfl rfl rfl (isB_eq h4.2)
      | 3, _ => exact ge3 rfl rfl rfl (isB_eq h3.2)
      | 4, _ => exact ge3 rfl rfl rfl (isB_eq h2.2)
      | 5, _ => exact ge3 rfl rfl rfl (isB_eq h1.2)
    | 1, _ =>
      have h0 := r312 k v0 v1 v2 v3 v4 v5 v6
      have h1 := Bool.and_eq_true_iff.1 h0
      have h2 := Bool.and_eq_true_iff.1 h1.1
      have h3 := Bool.and_eq_true_iff.1 h2.1
      have h4 := Bool.and_eq_true_iff.1 h3.1
      have h5 := Bool.and_eq_true_iff.1 h4.1
      match m, hm with
      | 0, _ => exact ge3 rfl rfl rfl (isB_eq h5.1)
      | 1, _ => exact ge3 rfl rfl rfl (isB_eq h5.2)
      | 2, _ => exact ge3 rfl rfl rfl (isB_eq h4.2)
      | 3, _ => exact ge3 rfl rfl rfl (isB_eq h3.2)
      | 4, _ => exact ge3 rfl rfl rfl (isB_eq h2.2)
      | 5, _ => exact ge3 rfl rfl rfl (isB_eq h1.2)
    | 2, _ =>
      have h0 := r313 k v0 v1 v2 v3 v4 v5 v6
      have h1 := Bool.and_eq_true_iff.1 h0
      have h2 := Bool.and_eq_true_iff.1 h1.1
      have h3 := Bool.and_eq_true_iff.1 h2.1
      have h4 := Bool.and_eq_true_iff.1 h3.1
      have h5 := Bool.and_eq_true_iff.1 h4.1
      match m, hm with
      | 0, _ => exact ge3 rfl rfl rfl (isB_eq h5.1)
      | 1, _ => exact ge3 rfl rfl rfl (isB_eq h5.2)
      | 2, _ => exact ge3 rfl rfl rfl (isB_eq h4.2)
      | 3, _ => exact ge3 rfl rfl rfl (isB_eq h3.2)
      | 4, _ => exact ge3 rfl rfl rfl (isB_eq h2.2)
      | 5, _ => exact ge3 rfl rfl rfl (isB_eq h1.2)
    | 3, _ =>
      have h0 := r314 k v0 v1 v2 v3 v4 v5 v6
      have h1 := Bool.and_eq_true_iff.1 h0
      have h2 := Bool.and_eq_true_iff.1 h1.1
      have h3 := Bool.and_eq_true_iff.1 h2.1
      have h4 := Bool.and_eq_true_iff.1 h3.1
      have h5 := Bool.and_eq_true_iff.1 h4.1
      match m, hm with
      | 0, _ => exact ge3 rfl rfl rfl (isB_eq h5.1)
      | 1, _ => exact ge3 rfl rfl rfl (isB_eq h5.2)
      | 2, _ => exact ge3 rfl rfl rfl (isB_eq h4.2)
      | 3, _ => exact ge3 rfl rfl rfl (isB_eq h3.2)
      | 4, _ => exact ge3 rfl rfl rfl (isB_eq h2.2)
      | 5, _ => exact ge3 rfl rfl rfl (isB_eq h1.2)
end Go.Proofs.YtgddinljekkhdaaGreat.U

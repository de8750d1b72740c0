/- WorldSetups: what the law does at any setup. -/
import Derived.Test.YtkdoiehdifpihaaGreatWsB0
import Derived.Test.YtkdoiehdifpihaaGreatWsB1
import Derived.Test.YtkdoiehdifpihaaGreatWsB2
import Derived.Test.YtkdoiehdifpihaaGreatWsB3
import Derived.Test.YtkdoiehdifpihaaGreatWsB4
import Derived.Test.YtkdoiehdifpihaaGreatWsB5
namespace Go.Proofs.YtkdoiehdifpihaaGreat.Ws
open Go Go.Eng Go.RowKit
theorem bPall (val : Nat → Value) (hi : ∀ n, isOneV (val n) = true) (b : Nat → Nat) : ∀ (k : Nat) (_ : 1 ≤ k) (_ : k ≤ 64) (ok : ∀ r ∈ tabW b k, r.good val), (letI : SymV := ⟨val, hi⟩; letI : SymT := ⟨tabW b k, ok⟩; readRun (callFF Tryz.prog ⟨304, 306, 1000000⟩ (segOr Tryz.prog ⟨304, 306, 1000000⟩ 62 puts) 100000 100 20 [.pointer (some ⟨10, 0, none⟩)] (mem 16 (preS k))) (sv 5) (preS k) = true)
  | 1, _, _, ok => bP1 val hi b ok
  | 2, _, _, ok => bP2 val hi b ok
  | 3, _, _, ok => bP3 val hi b ok
  | 4, _, _, ok => bP4 val hi b ok
  | 5, _, _, ok => bP5 val hi b ok
  | 6, _, _, ok => bP6 val hi b ok
  | 7, _, _, ok => bP7 val hi b ok
  | 8, _, _, ok => bP8 val hi b ok
  | 9, _, _, ok => bP9 val hi b ok
  | 10, _, _, ok => bP10 val hi b ok
  | 11, _, _, ok => bP11 val hi b ok
  | 12, _, _, ok => bP12 val hi b ok
  | 13, _, _, ok => bP13 val hi b ok
  | 14, _, _, ok => bP14 val hi b ok
  | 15, _, _, ok => bP15 val hi b ok
  | 16, _, _, ok => bP16 val hi b ok
  | 17, _, _, ok => bP17 val hi b ok
  | 18, _, _, ok => bP18 val hi b ok
  | 19, _, _, ok => bP19 val hi b ok
  | 20, _, _, ok => bP20 val hi b ok
  | 21, _, _, ok => bP21 val hi b ok
  | 22, _, _, ok => bP22 val hi b ok
  | 23, _, _, ok => bP23 val hi b ok
  | 24, _, _, ok => bP24 val hi b ok
  | 25, _, _, ok => bP25 val hi b ok
  | 26, _, _, ok => bP26 val hi b ok
  | 27, _, _, ok => bP27 val hi b ok
  | 28, _, _, ok => bP28 val hi b ok
  | 29, _, _, ok => bP29 val hi b ok
  | 30, _, _, ok => bP30 val hi b ok
  | 31, _, _, ok => bP31 val hi b ok
  | 32, _, _, ok => bP32 val hi b ok
  | 33, _, _, ok => bP33 val hi b ok
  | 34, _, _, ok => bP34 val hi b ok
  | 35, _, _, ok => bP35 val hi b ok
  | 36, _, _, ok => bP36 val hi b ok
  | 37, _, _, ok => bP37 val hi b ok
  | 38, _, _, ok => bP38 val hi b ok
  | 39, _, _, ok => bP39 val hi b ok
  | 40, _, _, ok => bP40 val hi b ok
  | 41, _, _, ok => bP41 val hi b ok
  | 42, _, _, ok => bP42 val hi b ok
  | 43, _, _, ok => bP43 val hi b ok
  | 44, _, _, ok => bP44 val hi b ok
  | 45, _, _, ok => bP45 val hi b ok
  | 46, _, _, ok => bP46 val hi b ok
  | 47, _, _, ok => bP47 val hi b ok
  | 48, _, _, ok => bP48 val hi b ok
  | 49, _, _, ok => bP49 val hi b ok
  | 50, _, _, ok => bP50 val hi b ok
  | 51, _, _, ok => bP51 val hi b ok
  | 52, _, _, ok => bP52 val hi b ok
  | 53, _, _, ok => bP53 val hi b ok
  | 54, _, _, ok => bP54 val hi b ok
  | 55, _, _, ok => bP55 val hi b ok
  | 56, _, _, ok => bP56 val hi b ok
  | 57, _, _, ok => bP57 val hi b ok
  | 58, _, _, ok => bP58 val hi b ok
  | 59, _, _, ok => bP59 val hi b ok
  | 60, _, _, ok => bP60 val hi b ok
  | 61, _, _, ok => bP61 val hi b ok
  | 62, _, _, ok => bP62 val hi b ok
  | 63, _, _, ok => bP63 val hi b ok
  | 64, _, _, ok => bP64 val hi b ok
  | 0, h, _, _ => absurd h (by omega)
  | n + 65, _, h, _ => absurd h (by omega)
theorem bRall (val : Nat → Value) (hi : ∀ n, isOneV (val n) = true) (b : Nat → Nat) : ∀ (k : Nat) (_ : 1 ≤ k) (_ : k ≤ 64) (ok : ∀ r ∈ tabW b k, r.good val), (letI : SymV := ⟨val, hi⟩; letI : SymT := ⟨tabW b k, ok⟩; strRun (callM Tryz.prog ⟨304, 306, 1000000⟩ (fun _ => none) [tN] kmN 0 100000 100 21 [.pointer (some ⟨15, 0, none⟩)] (mem 16 (preR k))) (preR k) = some (sB b k, true))
  | 1, _, _, ok => bR1 val hi b ok
  | 2, _, _, ok => bR2 val hi b ok
  | 3, _, _, ok => bR3 val hi b ok
  | 4, _, _, ok => bR4 val hi b ok
  | 5, _, _, ok => bR5 val hi b ok
  | 6, _, _, ok => bR6 val hi b ok
  | 7, _, _, ok => bR7 val hi b ok
  | 8, _, _, ok => bR8 val hi b ok
  | 9, _, _, ok => bR9 val hi b ok
  | 10, _, _, ok => bR10 val hi b ok
  | 11, _, _, ok => bR11 val hi b ok
  | 12, _, _, ok => bR12 val hi b ok
  | 13, _, _, ok => bR13 val hi b ok
  | 14, _, _, ok => bR14 val hi b ok
  | 15, _, _, ok => bR15 val hi b ok
  | 16, _, _, ok => bR16 val hi b ok
  | 17, _, _, ok => bR17 val hi b ok
  | 18, _, _, ok => bR18 val hi b ok
  | 19, _, _, ok => bR19 val hi b ok
  | 20, _, _, ok => bR20 val hi b ok
  | 21, _, _, ok => bR21 val hi b ok
  | 22, _, _, ok => bR22 val hi b ok
  | 23, _, _, ok => bR23 val hi b ok
  | 24, _, _, ok => bR24 val hi b ok
  | 25, _, _, ok => bR25 val hi b ok
  | 26, _, _, ok => bR26 val hi b ok
  | 27, _, _, ok => bR27 val hi b ok
  | 28, _, _, ok => bR28 val hi b ok
  | 29, _, _, ok => bR29 val hi b ok
  | 30, _, _, ok => bR30 val hi b ok
  | 31, _, _, ok => bR31 val hi b ok
  | 32, _, _, ok => bR32 val hi b ok
  | 33, _, _, ok => bR33 val hi b ok
  | 34, _, _, ok => bR34 val hi b ok
  | 35, _, _, ok => bR35 val hi b ok
  | 36, _, _, ok => bR36 val hi b ok
  | 37, _, _, ok => bR37 val hi b ok
  | 38, _, _, ok => bR38 val hi b ok
  | 39, _, _, ok => bR39 val hi b ok
  | 40, _, _, ok => bR40 val hi b ok
  | 41, _, _, ok => bR41 val hi b ok
  | 42, _, _, ok => bR42 val hi b ok
  | 43, _, _, ok => bR43 val hi b ok
  | 44, _, _, ok => bR44 val hi b ok
  | 45, _, _, ok => bR45 val hi b ok
  | 46, _, _, ok => bR46 val hi b ok
  | 47, _, _, ok => bR47 val hi b ok
  | 48, _, _, ok => bR48 val hi b ok
  | 49, _, _, ok => bR49 val hi b ok
  | 50, _, _, ok => bR50 val hi b ok
  | 51, _, _, ok => bR51 val hi b ok
  | 52, _, _, ok => bR52 val hi b ok
  | 53, _, _, ok => bR53 val hi b ok
  | 54, _, _, ok => bR54 val hi b ok
  | 55, _, _, ok => bR55 val hi b ok
  | 56, _, _, ok => bR56 val hi b ok
  | 57, _, _, ok => bR57 val hi b ok
  | 58, _, _, ok => bR58 val hi b ok
  | 59, _, _, ok => bR59 val hi b ok
  | 60, _, _, ok => bR60 val hi b ok
  | 61, _, _, ok => bR61 val hi b ok
  | 62, _, _, ok => bR62 val hi b ok
  | 63, _, _, ok => bR63 val hi b ok
  | 64, _, _, ok => bR64 val hi b ok
  | 0, h, _, _ => absurd h (by omega)
  | n + 65, _, h, _ => absurd h (by omega)
theorem lwall (val : Nat → Value) (hi : ∀ n, isOneV (val n) = true) (b : Nat → Nat) : ∀ (k : Nat) (_ : 1 ≤ k) (_ : k ≤ 64) (ok : ∀ r ∈ tabW b k, r.good val), (letI : SymV := ⟨val, hi⟩; letI : SymT := ⟨tabW b k, ok⟩; isVal (callFF Tryz.prog ⟨304, 306, 1000000⟩ (primsW k) 100000 100 4 [argW k] (mem 1 memS)) (.bool true) = true)
  | 1, _, _, ok => lw1 val hi b ok
  | 2, _, _, ok => lw2 val hi b ok
  | 3, _, _, ok => lw3 val hi b ok
  | 4, _, _, ok => lw4 val hi b ok
  | 5, _, _, ok => lw5 val hi b ok
  | 6, _, _, ok => lw6 val hi b ok
  | 7, _, _, ok => lw7 val hi b ok
  | 8, _, _, ok => lw8 val hi b ok
  | 9, _, _, ok => lw9 val hi b ok
  | 10, _, _, ok => lw10 val hi b ok
  | 11, _, _, ok => lw11 val hi b ok
  | 12, _, _, ok => lw12 val hi b ok
  | 13, _, _, ok => lw13 val hi b ok
  | 14, _, _, ok => lw14 val hi b ok
  | 15, _, _, ok => lw15 val hi b ok
  | 16, _, _, ok => lw16 val hi b ok
  | 17, _, _, ok => lw17 val hi b ok
  | 18, _, _, ok => lw18 val hi b ok
  | 19, _, _, ok => lw19 val hi b ok
  | 20, _, _, ok => lw20 val hi b ok
  | 21, _, _, ok => lw21 val hi b ok
  | 22, _, _, ok => lw22 val hi b ok
  | 23, _, _, ok => lw23 val hi b ok
  | 24, _, _, ok => lw24 val hi b ok
  | 25, _, _, ok => lw25 val hi b ok
  | 26, _, _, ok => lw26 val hi b ok
  | 27, _, _, ok => lw27 val hi b ok
  | 28, _, _, ok => lw28 val hi b ok
  | 29, _, _, ok => lw29 val hi b ok
  | 30, _, _, ok => lw30 val hi b ok
  | 31, _, _, ok => lw31 val hi b ok
  | 32, _, _, ok => lw32 val hi b ok
  | 33, _, _, ok => lw33 val hi b ok
  | 34, _, _, ok => lw34 val hi b ok
  | 35, _, _, ok => lw35 val hi b ok
  | 36, _, _, ok => lw36 val hi b ok
  | 37, _, _, ok => lw37 val hi b ok
  | 38, _, _, ok => lw38 val hi b ok
  | 39, _, _, ok => lw39 val hi b ok
  | 40, _, _, ok => lw40 val hi b ok
  | 41, _, _, ok => lw41 val hi b ok
  | 42, _, _, ok => lw42 val hi b ok
  | 43, _, _, ok => lw43 val hi b ok
  | 44, _, _, ok => lw44 val hi b ok
  | 45, _, _, ok => lw45 val hi b ok
  | 46, _, _, ok => lw46 val hi b ok
  | 47, _, _, ok => lw47 val hi b ok
  | 48, _, _, ok => lw48 val hi b ok
  | 49, _, _, ok => lw49 val hi b ok
  | 50, _, _, ok => lw50 val hi b ok
  | 51, _, _, ok => lw51 val hi b ok
  | 52, _, _, ok => lw52 val hi b ok
  | 53, _, _, ok => lw53 val hi b ok
  | 54, _, _, ok => lw54 val hi b ok
  | 55, _, _, ok => lw55 val hi b ok
  | 56, _, _, ok => lw56 val hi b ok
  | 57, _, _, ok => lw57 val hi b ok
  | 58, _, _, ok => lw58 val hi b ok
  | 59, _, _, ok => lw59 val hi b ok
  | 60, _, _, ok => lw60 val hi b ok
  | 61, _, _, ok => lw61 val hi b ok
  | 62, _, _, ok => lw62 val hi b ok
  | 63, _, _, ok => lw63 val hi b ok
  | 64, _, _, ok => lw64 val hi b ok
  | 0, h, _, _ => absurd h (by omega)
  | n + 65, _, h, _ => absurd h (by omega)

/-- the number of bodies told as it is, or as the number 3 -/
theorem swapM [SymV] {v v' : Value} (k : Nat) (h : ∀ (φ : Phi) (y : Value), VR φ v y → VR φ v' y) (id : Nat) :
    (lk (preM v k) id = none ∧ lk (preM v' k) id = none) ∨ ∃ c c', lk (preM v k) id = some c ∧ lk (preM v' k) id = some c' ∧ SwapB c c' := by
  have key : SwapB (.cells [.pointer (some ⟨4, 0, none⟩), .pointer (some ⟨7, 0, none⟩), sv 0, .bool false, sv 1, .bool false, sv 2, .bool false, v, sv 4, .slice (some ⟨8, 0, none⟩) k k, .slice none 0 0, iv 0, iv 0])
      (.cells [.pointer (some ⟨4, 0, none⟩), .pointer (some ⟨7, 0, none⟩), sv 0, .bool false, sv 1, .bool false, sv 2, .bool false, v', sv 4, .slice (some ⟨8, 0, none⟩) k k, .slice none 0 0, iv 0, iv 0]) := by
    refine swap_cells rfl fun φ i a a' y ha ha' hy => ?_
    match i, ha, ha' with
    | 8, ha, ha' => cases ha; cases ha'; exact h φ y hy
    | 0, ha, ha' => cases ha; cases ha'; exact hy
    | 1, ha, ha' => cases ha; cases ha'; exact hy
    | 2, ha, ha' => cases ha; cases ha'; exact hy
    | 3, ha, ha' => cases ha; cases ha'; exact hy
    | 4, ha, ha' => cases ha; cases ha'; exact hy
    | 5, ha, ha' => cases ha; cases ha'; exact hy
    | 6, ha, ha' => cases ha; cases ha'; exact hy
    | 7, ha, ha' => cases ha; cases ha'; exact hy
    | 9, ha, ha' => cases ha; cases ha'; exact hy
    | 10, ha, ha' => cases ha; cases ha'; exact hy
    | 11, ha, ha' => cases ha; cases ha'; exact hy
    | 12, ha, ha' => cases ha; cases ha'; exact hy
    | 13, ha, ha' => cases ha; cases ha'; exact hy
    | n + 14, ha, _ => cases ha
  unfold preM
  simp only [lk]
  repeat' split
  all_goals first
    | exact .inl ⟨rfl, rfl⟩
    | exact .inr ⟨_, _, rfl, rfl, key⟩
    | exact .inr ⟨_, _, rfl, rfl, SwapB.refl _⟩

theorem good (x y d r : Int) (k : Nat) (h1 : 1 ≤ k) (h2 : k ≤ 64) (hx : -9223372036854775808 ≤ x ∧ x ≤ 9223372036854775807) (hy : -9223372036854775808 ≤ y ∧ y ≤ 9223372036854775807) (h : ckS x false y false d false (Int.ofNat k) r = 0) (w : World) :
    Calls Tryz.prog 4 ⟨[.agg ⟨[.int .i64 x, .bool false, .int .i64 y, .bool false, .int .i64 d, .bool false, .int .i64 (Int.ofNat k), .int .i64 r]⟩]⟩ w fun e w' => e = .returned (.bool true) ∧ Below w.heap.size w w' := by
  have hi := hiW x y d (Int.ofNat k) r ⟨⟨sB (bW x y d (Int.ofNat k) r) k⟩⟩
  have ok := okW x y d r k h2
  letI S : SymV := ⟨valW x y d (Int.ofNat k) r ⟨⟨sB (bW x y d (Int.ofNat k) r) k⟩⟩, hi⟩
  letI TT : SymT := ⟨tabW (bW x y d (Int.ofNat k) r) k, ok⟩
  have fp := segFit (segOK_at h2).1
  have fr := segFit (segOK_at h2).2.1
  obtain ⟨m1, r1, g1⟩ := readRun_some (bPall _ hi _ k h1 h2 ok)
  obtain ⟨m2, r2, g2⟩ := strRun_some (bRall _ hi _ k h1 h2 ok)
  have fs : ∀ p ∈ preS k, p.1 < 16 ∧ ubB p.2 ≤ 16 := by
    exact preS_at h2
  have v3 : SymV.val 3 = .int .i64 (Int.ofNat k) := rfl
  have scS : SC Tryz.prog 20 [.pointer (some ⟨10, 0, none⟩)] (mem 16 (preS k)) (sv 5) (mem 16 (preS k)) := sc_read (ffSound (segOr_ok pok (putsGood _ hi _ k ok)) 100000 100) ⟨by decide, fs⟩ r1 g1 (by decide)
  have gp : SegGood Tryz.prog (segP k) := ⟨fp, sc_swap (show (16 : Nat) ≤ 16384 by decide) fs fp.pre (swapM k fun φ y q => by cases q with | sym _ _ _ _ hq => rw [hq, v3]; exact .int _ _)
    (swapM k fun φ y q => by cases q; exact .sym _ _ _ _ v3.symm) scS⟩
  have gr : SegGood Tryz.prog (segR k) := ⟨fr, sc_str (callM_sound pok (noPrim _) tNk kmN 0 100000 100) ⟨(show (16 : Nat) ≤ 16384 by decide), fr.pre⟩ r2 g2 rfl⟩
  have hp : PrimOK Tryz.prog (primsW k) := primOr_ok (ansPrim_ok (fun φ args' w ha => by
      rw [agg_den rfl ha]; have q := ckP x y d (Int.ofNat k) r false false false hx hy w; rw [h] at q; exact q)) (primOr_ok (ansPrim_ok (fun φ args' w ha => by
      rw [agg_den rfl ha]; have q := ckR x y d (Int.ofNat k) r false false false w; rw [h] at q; exact q)) (primOr_ok (segPrim_ok (List.forall_mem_cons.2 ⟨gp, List.forall_mem_cons.2 ⟨gr, List.forall_mem_nil _⟩⟩)) (prim1_ok Aw.known)))
  exact bool_call (ffSound hp 100000 100) (lwall _ hi _ k h1 h2 ok) (.cons _ _ [] [] (.agg _ _ (.cons _ _ _ _ (.sym _ _ _ _ rfl) (.cons _ _ _ _ (.bool false) (.cons _ _ _ _ (.sym _ _ _ _ rfl) (.cons _ _ _ _ (.bool false) (.cons _ _ _ _ (.sym _ _ _ _ rfl) (.cons _ _ _ _ (.bool false) (.cons _ _ _ _ (.int .i64 (Int.ofNat k)) (.cons _ _ [] [] (.sym _ _ _ _ rfl) .nil))))))))) .nil) w

theorem walk (x y d m r : Int) (fx fy fd : Bool) (hx : -9223372036854775808 ≤ x ∧ x ≤ 9223372036854775807) (hy : -9223372036854775808 ≤ y ∧ y ≤ 9223372036854775807) (w : World) :
    Calls Tryz.prog 4 ⟨[.agg ⟨[.int .i64 x, .bool fx, .int .i64 y, .bool fy, .int .i64 d, .bool fd, .int .i64 m, .int .i64 r]⟩]⟩ w fun e w' => e = .returned (.bool true) ∧ Below w.heap.size w w' := by
  by_cases h : ckS x fx y fy d fd m r = 3
  · exact bad x y d m r fx fy fd hx hy h w
  · have h0 := h
    unfold ckS at h
    split at h
    · rename_i hc
      obtain ⟨rfl, rfl, rfl, h3⟩ := hc
      have hm : m = Int.ofNat m.toNat := (Int.toNat_of_nonneg (by omega)).symm
      rw [hm] at h0 ⊢
      refine good x y d r m.toNat (by omega) (by omega) hx hy ?_ w
      unfold ckS
      rw [if_pos]
      rw [← hm]
      exact ⟨rfl, rfl, rfl, h3⟩
    · exact absurd rfl h
end Go.Proofs.YtkdoiehdifpihaaGreat.Ws

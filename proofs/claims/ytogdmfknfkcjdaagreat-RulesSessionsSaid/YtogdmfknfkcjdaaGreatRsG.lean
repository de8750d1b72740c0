/- RulesSessions: the whole law, at any setup and any list. -/
import Derived.Test.YtogdmfknfkcjdaaGreatRsE
import Derived.Test.YtogdmfknfkcjdaaGreatRsF
import Derived.Test.YtogdmfknfkcjdaaGreatPCk
namespace Go.Proofs.YtogdmfknfkcjdaaGreat.Rs
open Go Go.Eng Go.RowKit
def valP (x y d m r L : Int) (V : Value) : Nat → Value
  | 2 => .int .i64 L
  | 7 => V
  | 20 => .int .i64 x
  | 21 => .int .i64 y
  | 22 => .int .i64 d
  | 23 => .int .i64 r
  | 24 => .int .i64 m
  | _ => .int .i64 0
theorem hiP {x y d m r L : Int} {V : Value} (hV : isOneV V = true) : ∀ n, isOneV (valP x y d m r L V n) = true := by
  intro n
  unfold valP
  split <;> first | rfl | exact hV
theorem bool_call [SymV] [SymT] {P : Program} {call : CallT} (hcs : CallSound P call) {g : FuncId} {args args' : List Value} {b : Bool} (h : isVal (call g args (mem 1 memS)) (.bool b) = true) (ha : VRL phiS args args') (w : World) (hnp : NoPin) :
    Calls P g ⟨args'⟩ w fun e w' => e = .returned (.bool b) ∧ Below w.heap.size w w' := by
  refine (val_call hcs h ha w hnp).mono fun e w' ⟨r, φ', he, hv, hb⟩ => ?_
  cases hv
  exact ⟨he, hb⟩
theorem ffP [SymV] [SymT] {prim : PrimT} (hp : PrimOK Tryz.prog prim) (fuel n : Nat) : CallSound Tryz.prog (callFF Tryz.prog ⟨552, 554, 386⟩ prim fuel n) := fun g args m v m' h hw => by
  rw [callFF_eq] at h
  exact call_sound pok hp fuel n g args m v m' h hw

/-- a list of integers that was handed in -/
inductive ArgI (W : World) : Value → Prop where
  | none : ArgI W (.slice none 0 0)
  | some (blk off n cap : Nat) (c : Array Value) (e : TypeId) (fz : Nat × Nat) (xs : Nat → Int) : n ≤ cap → W.heap[blk]? = some (.cells c e fz) →
      (∀ i, i < n → c[off + i]? = some (.int .i64 (xs i)) ∧ (-9223372036854775808 ≤ xs i ∧ xs i ≤ 9223372036854775807)) → ArgI W (slV blk off n cap)

theorem good (x y d r : Int) (k : Nat) (V : Value) (L : Nat) (ad : Option Addr) (cap : Nat) (hVs : V = .slice ad L cap) (hV1 : isOneV V = true) (hL : L ≤ 12) (k1 : 1 ≤ k) (k2 : k ≤ 64) (hx : -9223372036854775808 ≤ x ∧ x ≤ 9223372036854775807) (hy : -9223372036854775808 ≤ y ∧ y ≤ 9223372036854775807) (h : ckS x false y false d false (Int.ofNat k) r = 0) (W : World) (hV : ArgI W V) :
    Calls Tryz.prog 3 ⟨[.agg ⟨[.int .i64 x, .bool false, .int .i64 y, .bool false, .int .i64 d, .bool false, .int .i64 (Int.ofNat k), .int .i64 r]⟩, V]⟩ W fun e w' => e = .returned (.bool true) ∧ Below W.heap.size W w' := by
  have hi := hiP (x := x) (y := y) (d := d) (m := 0) (r := r) (L := (L : Int)) hV1
  have ok : ∀ q ∈ tabK, q.good (valP x y d 0 r L V) := List.forall_mem_cons.2 ⟨⟨rfl, fun _ => ⟨_, _, _, hVs, rfl⟩, fun h => by cases h⟩, List.forall_mem_cons.2 ⟨goodC (k := .i64) (a := L) (b := 12) rfl rfl rfl rfl rfl (decide_eq_false (by omega)), List.forall_mem_nil _⟩⟩
  letI S : SymV := .plain (valP x y d 0 r L V) hi
  letI TT : SymT := ⟨tabK, ok⟩
  have hnp : @NoPin S := ⟨fun _ => trivial, fun _ h => h⟩
  have hp : PrimOK Tryz.prog (primsK k) := primOr_ok (ansPrim_ok (fun φ args' w ha => by
      rw [agg_den rfl ha]; have q := ckP x y d (Int.ofNat k) r false false false hx hy w; rw [h] at q; exact q)) (ansPrim_ok (fun φ args' w ha => by
      rw [agg_den rfl ha]; have q := ckR x y d (Int.ofNat k) r false false false w; rw [h] at q; exact q))
  refine calls_flat (c := C3) (t := 4) Tryz.func3 rfl rfl ?_
  rw [split3]
  refine wpL_append _ _ _ _ ?_
  have ha : VRL phiS [argK k, sv 7] [.agg ⟨[.int .i64 x, .bool false, .int .i64 y, .bool false, .int .i64 d, .bool false, .int .i64 (Int.ofNat k), .int .i64 r]⟩, V] := .cons _ _ _ _ (.agg _ _ (.cons _ _ _ _ (.sym _ _ _ _ rfl) (.cons _ _ _ _ (.bool false) (.cons _ _ _ _ (.sym _ _ _ _ rfl) (.cons _ _ _ _ (.bool false) (.cons _ _ _ _ (.sym _ _ _ _ rfl) (.cons _ _ _ _ (.bool false) (.cons _ _ _ _ (.int .i64 (Int.ofNat k)) (.cons _ _ [] [] (.sym _ _ _ _ rfl) .nil))))))))) (.cons _ _ [] [] (.sym _ _ _ _ rfl) .nil)
  refine code_runE (call := callK k) pok (ffP hp 100000 60) (l := memS) (l' := stL b0) (ρ := [(0, 0), (1, 13), (2, 12), (3, 11), (4, 20), (5, 19)]) (live := [(0, argK k), (1, sv 7)]) (live' := [(5, pt 1), (7, pt 4), (1, sv 7), (9, .int .i64 (.ofNat 0))]) (lx := .norm) (is := [13, 12, 20]) (ts := [5, 7, 1, 9])
    (bs := [some (.cells [pt 12]), some (.cells (pt 11 :: (opn b0 ++ [.slice none 0 0]))), some (.cells (pt 19 :: (opn b0 ++ [.slice none 0 0])))]) (vs := [pt 13, pt 20, sv 7, .int .i64 (.ofNat 0)])
    ⟨by decide, fun p hp => by simp only [memS, List.mem_singleton] at hp; subst hp; exact ⟨by decide, Nat.zero_le _⟩⟩ rfl rfl (fun u => preAll k k1 k2 _ hi ok u) (by decide) rfl (fun p hp => ((stL_ok b0).2 p hp).1) (fun p hp => ?_) (fun p hp => ?_) (St.start W hnp) rfl
    (FL.start (nt := 96) ha (Nat.le_of_ble_eq_true rfl) (by decide) _ (fun p hp => ?_)) fun ψ w1 a1 s1 s2 s3 s4 s5 _ => ?_
  · simp only [List.mem_cons, List.not_mem_nil, or_false] at hp
    rcases hp with rfl | rfl | rfl | rfl | rfl | rfl
    · exact ⟨.dead, rfl, .inl rfl⟩
    · exact ⟨_, rfl, .inr ⟨0, _, rfl, rfl, rfl⟩⟩
    · exact ⟨_, rfl, .inr ⟨1, _, rfl, rfl, rfl⟩⟩
    · exact ⟨.dead, rfl, .inl rfl⟩
    · exact ⟨_, rfl, .inr ⟨2, _, rfl, rfl, rfl⟩⟩
    · exact ⟨.dead, rfl, .inl rfl⟩
  · simp only [List.mem_cons, List.not_mem_nil, or_false] at hp
    rcases hp with rfl | rfl | rfl | rfl
    · exact ⟨0, _, rfl, rfl, rfl⟩
    · exact ⟨1, _, rfl, rfl, rfl⟩
    · exact ⟨2, _, rfl, rfl, rfl⟩
    · exact ⟨3, _, rfl, rfl, rfl⟩
  · simp only [List.mem_cons, List.not_mem_nil, or_false] at hp
    rcases hp with rfl | rfl <;> rfl
  have v1 : a1.tmps.getD 1 undef = V := symV (s3.val (1, sv 7) (by simp))
  have v9 : a1.tmps.getD 9 undef = .int .i64 0 := by
    have := s3.val (9, .int .i64 (.ofNat 0)) (by simp)
    generalize a1.tmps.getD 9 undef = q at this
    cases this
    rfl
  have t1 : @St noSymV W.heap.size 6 (stL b0) ψ w1 := St.inst (S1 := S) (S2 := noSymV) (p := fun _ => false) (fun _ h => by cases h) (stL_mem b0) (stL_sym b0) s1 (@Pin.none noSymV ψ w1 ⟨fun _ => trivial, fun _ h => h⟩)
  have t3 : @FL noSymV liveS 96 ψ a1 := by
    refine (@FL.mk noSymV _ _ _ _ s3.size s3.nt (fun p hp => ?_) s3.any)
    simp only [liveS, List.mem_cons, List.not_mem_nil, or_false] at hp
    rcases hp with rfl | rfl
    · exact VR.inst (S1 := S) (S2 := noSymV) (p := fun _ => false) (fun _ h => by cases h) 7 _ _ rfl (s3.val (5, pt 1) (by simp))
    · exact VR.inst (S1 := S) (S2 := noSymV) (p := fun _ => false) (fun _ h => by cases h) 7 _ _ rfl (s3.val (7, pt 4) (by simp))
  have hd1 : a1.defers = [] := s5
  have rest : ∀ (b : Nat → Bool) (ψ' : Phi) (w' : World) (a' : Act), @St noSymV W.heap.size 6 (stL b) ψ' w' → ψ' 0 = some none → @FL noSymV liveS 96 ψ' a' → a'.defers = a1.defers → Below W.heap.size W w' → wpL Tryz.prog (fun x a w' => match x with
      | .normal => a.defers = [] ∧ Ending.returned (a.tmps.getD 4 undef) = .returned (.bool true) ∧ Below W.heap.size W w'
      | .ret => a.defers = [] ∧ Ending.returned (a.tmps.getD 4 undef) = .returned (.bool true) ∧ Below W.heap.size W w'
      | _ => False) post3 a' w' := fun b ψ' w' a' u1 u2 u3 u4 u5 => by
    refine fin b u1 u2 u3 (u4.trans hd1) u5 fun a'' w'' z1 z2 z3 => ?_
    exact ⟨z1, by rw [z2], z3⟩
  show (Code.block 0 (.loop B3)).wp Tryz.prog (Exit.then (wpL Tryz.prog _ post3) _) a1 w1
  cases hV with
  | none =>
    cases hVs
    refine wp_block (loop_down (Q := Exit.inBlock 0 (Exit.then (wpL Tryz.prog _ post3) _)) (I := fun k' a' w' => k' = 0 ∧ a' = a1 ∧ w' = w1) (fun k' a' w' h => by cases h.1) ?_ 0 a1 w1 ⟨rfl, rfl, rfl⟩)
    rintro a' w' ⟨_, rfl, rfl⟩
    refine theEnd (V := .slice none 0 0) (L := 0) rfl rfl t1 s2 t3 v1 v9 s4 fun ψ' w' a' u1 u2 u3 u4 u5 => ?_
    exact rest b0 ψ' w' a' u1 u2 u3 u4 u5
  | some blk off n cap' c e fz xs h1 h2 h3 =>
    cases hVs
    exact theLoop h2 h1 hL h3 t1 s2 t3 v1 v9 s4 fun b ψ' w' a' u1 u2 u3 u4 u5 => rest b ψ' w' a' u1 u2 u3 u4 u5

theorem argsB (x y d m r L : Int) (fx fy fd : Bool) (V : Value) (hi : ∀ n, isOneV (valP x y d m r L V n) = true) : @VRL (.plain (valP x y d m r L V) hi) phiS [argB fx fy fd, sv 7] [.agg ⟨[.int .i64 x, .bool fx, .int .i64 y, .bool fy, .int .i64 d, .bool fd, .int .i64 m, .int .i64 r]⟩, V] := by
  letI S : SymV := .plain (valP x y d m r L V) hi
  have ha : VRL phiS [argB fx fy fd, sv 7] [.agg ⟨[.int .i64 x, .bool fx, .int .i64 y, .bool fy, .int .i64 d, .bool fd, .int .i64 m, .int .i64 r]⟩, V] := .cons _ _ _ _ (.agg _ _ (.cons _ _ _ _ (.sym _ _ _ _ rfl) (.cons _ _ _ _ (.bool fx) (.cons _ _ _ _ (.sym _ _ _ _ rfl) (.cons _ _ _ _ (.bool fy) (.cons _ _ _ _ (.sym _ _ _ _ rfl) (.cons _ _ _ _ (.bool fd) (.cons _ _ _ _ (.sym _ _ _ _ rfl) (.cons _ _ [] [] (.sym _ _ _ _ rfl) .nil))))))))) (.cons _ _ [] [] (.sym _ _ _ _ rfl) .nil)
  exact ha

theorem walk (x y d m r : Int) (fx fy fd : Bool) (V : Value) (hx : -9223372036854775808 ≤ x ∧ x ≤ 9223372036854775807) (hy : -9223372036854775808 ≤ y ∧ y ≤ 9223372036854775807) (W : World) (hV : ArgI W V) :
    Calls Tryz.prog 3 ⟨[.agg ⟨[.int .i64 x, .bool fx, .int .i64 y, .bool fy, .int .i64 d, .bool fd, .int .i64 m, .int .i64 r]⟩, V]⟩ W fun e w' => e = .returned (.bool true) ∧ Below W.heap.size W w' := by
  obtain ⟨ad, L, cap, hVs, hV1⟩ : ∃ (ad : Option Addr) (L cap : Nat), V = .slice ad L cap ∧ isOneV V = true := by
    cases hV with
    | none => exact ⟨_, _, _, rfl, rfl⟩
    | some blk off n cap c e fz xs h1 _ _ => exact ⟨_, _, _, rfl, Nat.ble_eq_true_of_le h1⟩
  have hi := hiP (x := x) (y := y) (d := d) (m := m) (r := r) (L := (L : Int)) hV1
  by_cases hL : L ≤ 12
  · by_cases h : ckS x fx y fy d fd m r = 3
    · have ok : ∀ q ∈ tabK, q.good (valP x y d m r L V) := List.forall_mem_cons.2 ⟨⟨rfl, fun _ => ⟨_, _, _, hVs, rfl⟩, fun h => by cases h⟩, List.forall_mem_cons.2 ⟨goodC (k := .i64) (a := L) (b := 12) rfl rfl rfl rfl rfl (decide_eq_false (by omega)), List.forall_mem_nil _⟩⟩
      letI S : SymV := .plain (valP x y d m r L V) hi
      letI TT : SymT := ⟨tabK, ok⟩
      have hp : PrimOK Tryz.prog (primsB fx fy fd) := primOr_ok (ansPrim_ok (fun φ args' w ha => by
          rw [agg_den rfl ha]; have q := ckP x y d m r fx fy fd hx hy w; rw [h] at q; exact q)) (primOr_ok (ansPrim_ok (fun φ args' w ha => by
          rw [agg_den rfl ha]; have q := ckR x y d m r fx fy fd w; rw [h] at q; exact q)) (prim1_ok awakeP))
      have run : isVal (callFF Tryz.prog ⟨552, 554, 386⟩ (primsB fx fy fd) 100000 100 3 [argB fx fy fd, sv 7] (mem 1 memS)) (.bool true) = true := by
        cases fx <;> cases fy <;> cases fd
        · exact badRun_fff _ hi ok
        · exact badRun_fft _ hi ok
        · exact badRun_ftf _ hi ok
        · exact badRun_ftt _ hi ok
        · exact badRun_tff _ hi ok
        · exact badRun_tft _ hi ok
        · exact badRun_ttf _ hi ok
        · exact badRun_ttt _ hi ok
      exact bool_call (ffP hp 100000 100) run (argsB x y d m r L fx fy fd V hi) W ⟨fun _ => trivial, fun _ h => h⟩
    · have h0 := h
      unfold ckS at h
      split at h
      · rename_i hc
        obtain ⟨rfl, rfl, rfl, h3⟩ := hc
        have hz : ckS x false y false d false m r = 0 := by
          unfold ckS; rw [if_pos ⟨rfl, rfl, rfl, h3⟩]
        have hm : m = Int.ofNat m.toNat := (Int.toNat_of_nonneg (by omega)).symm
        rw [hm] at hz ⊢
        exact good x y d r m.toNat V L ad cap hVs hV1 hL (by omega) (by omega) hx hy hz W hV
      · exact absurd rfl h
  · have ok : ∀ q ∈ tabG, q.good (valP x y d m r L V) := List.forall_mem_cons.2 ⟨⟨rfl, fun _ => ⟨_, _, _, hVs, rfl⟩, fun h => by cases h⟩, List.forall_mem_cons.2 ⟨goodC (k := .i64) (a := L) (b := 12) rfl rfl rfl rfl rfl (decide_eq_true (by omega)), List.forall_mem_nil _⟩⟩
    letI S : SymV := .plain (valP x y d m r L V) hi
    letI TT : SymT := ⟨tabG, ok⟩
    exact bool_call (ffP (prim1_ok awakeP) 100000 100) (bigRun _ hi ok fx fy fd) (argsB x y d m r L fx fy fd V hi) W ⟨fun _ => trivial, fun _ h => h⟩
end Go.Proofs.YtogdmfknfkcjdaaGreat.Rs

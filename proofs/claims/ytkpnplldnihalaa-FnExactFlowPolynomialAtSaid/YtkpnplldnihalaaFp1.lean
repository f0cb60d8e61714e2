/- The flow polynomial: what it is; the program's polynomial. -/
import Derived.Test.YtkpnplldnihalaaEx5
import Derived.Test.YtkpnplldnihalaaMk1
namespace Go.Proofs.Ytkpnplldnihalaa
open Go.RowKit
set_option linter.unusedSimpArgs false
set_option linter.unusedVariables false
set_option maxRecDepth 20000

/-- The sign of a set of k edges. -/
def sgnP (L : Nat) (k : Int) : Int := 1 - 2 * ((L : Int) - k).tmod 2
/-- What a set adds to the numbers of the flow polynomial. -/
def stepP (L N : Nat) (acc : List Int) (x : Int × Int) : List Int := acc.set (x.1 - N + x.2).toNat (wrap64 (acc.getD (x.1 - N + x.2).toNat 0 + sgnP L x.1))
theorem stepP_len (L N : Nat) (acc : List Int) (x : Int × Int) : (stepP L N acc x).length = acc.length := by simp [stepP]
theorem foldP_len (L N : Nat) : ∀ (ys : List (Int × Int)) (b : List Int), (ys.foldl (stepP L N) b).length = b.length
  | [], _ => rfl
  | y :: ys, b => by rw [List.foldl_cons, foldP_len L N ys, stepP_len]
/-- The numbers of the flow polynomial, one for each edge and one more. -/
def polyC (N : Nat) (es : List (Int × Int)) : List Int := (leafs false es es.length 0 (idx N) 0 N).foldl (stepP es.length N) (List.replicate (es.length + 1) 0)
theorem polyC_len (N : Nat) (es : List (Int × Int)) : (polyC N es).length = es.length + 1 := by rw [polyC, foldP_len]; simp
/-- How many numbers are left without the zeros at the end. -/
def trimN (P : List Int) : Nat → Nat
  | 0 => 0
  | n + 1 => if P.getD n 0 = 0 then trimN P n else n + 1
theorem trimN_le (P : List Int) : ∀ n, trimN P n ≤ n
  | 0 => Nat.le_refl _
  | n + 1 => by
    rw [trimN]
    have := trimN_le P n
    split <;> omega
theorem trimN_congr {P Q : List Int} : ∀ n, (∀ j, j < n → P.getD j 0 = Q.getD j 0) → trimN P n = trimN Q n
  | 0, _ => rfl
  | n + 1, h => by
    rw [trimN, trimN, h n (by omega), trimN_congr n fun j hj => h j (by omega)]
/-- The flow polynomial. -/
def polyV (N : Nat) (es : List (Int × Int)) : List Int := (polyC N es).take (trimN (polyC N es) (es.length + 1))

/-- What the function that adds up holds. -/
structure InvP (h : Nat) (n : Int) (A : Option Addr) (L c : Nat) (W : World) (acc : List Int) : Prop where
  lt : h + 2 < W.heap.size
  c0 : W.cell? ⟨h, 0, none⟩ = some (.int .i64 n)
  c1 : W.cell? ⟨h, 1, none⟩ = some (.slice A L c)
  c2 : W.cell? ⟨h + 2, 0, none⟩ = some (.slice (some ⟨h + 1, 0, none⟩) (L + 1) (L + 1))
  blk : Blk W (h + 1) 2 (cI acc).toArray
  len : acc.length = L + 1
theorem InvP.keep {h : Nat} {n : Int} {A : Option Addr} {L c : Nat} {W W' : World} {acc : List Int} (e : InvP h n A L c W acc) (hb : Below W.heap.size W W') : InvP h n A L c W' acc := by
  obtain ⟨k1, k2⟩ := bcell hb
  have := e.lt
  exact ⟨Nat.lt_of_lt_of_le e.lt hb.size, (k1 _ _ (by omega)).trans e.c0, (k1 _ _ (by omega)).trans e.c1, (k1 _ _ (by omega)).trans e.c2, e.blk.below hb e.blk.lt, e.len⟩
theorem ent_poly1 : Ent 102 := enters_of Try.func102 (by kernel_rfl) rfl

set_option maxHeartbeats 4000000 in
theorem poly1_b (h N : Nat) (A : Option Addr) (L c : Nat) (W : World) (acc : List Int) (k s : Int) (hok : OkL N L k s) (hL : L ≤ 1000) (hN : N ≤ 1000) (hI : InvP h N A L c W acc) :
    Calls Try.prog 102 (#[.int .i64 k, .int .i64 s] ++ #[.pointer (some ⟨h + 2, 0, none⟩), .pointer (some ⟨h, 0, none⟩)]) W fun e w' => e = .returned (.tuple #[]) ∧ SameBut (h + 1) W w' ∧ Below (h + 1) W w' ∧ InvP h N A L c w' (stepP L N acc (k, s)) := by
  obtain ⟨k0, k1, s0, s1, ks⟩ := hok
  obtain ⟨j, Hj⟩ : ∃ j : Nat, Hid (k - N + s = j) := ⟨(k - N + s).toNat, by show _ = _; omega⟩
  have hjL : j < L + 1 := by have := Hj.out; omega
  have Hst : Hid (stepP L N acc (k, s) = acc.set j (wrap64 (acc.getD j 0 + sgnP L k))) := by
    show _ = _
    rw [stepP]
    show acc.set (k - N + s).toNat _ = _
    rw [Hj.out, Int.toNat_natCast]
  rw [Hst.out]
  have HI := Lib.hid hI
  have h0 := hI.c0
  have h1 := hI.c1
  have h2 := hI.c2
  have hx := blkI_cell hI.blk (j := j) (by rw [hI.len]; exact hjL)
  have fz := hI.blk.frozen j
  have hlt := hI.lt
  clear hI Hst
  obtain ⟨v, Hv⟩ : ∃ v, Hid (acc.getD j 0 = v) := ⟨_, rfl⟩
  rw [Hv.out] at hx ⊢
  obtain ⟨t, Ht⟩ : ∃ t, Hid (((L : Int) - k).tmod 2 = t) := ⟨_, rfl⟩
  have bt : 0 ≤ t ∧ t < 2 := by
    have := Ht.out
    rw [Int.tmod_eq_emod_of_nonneg (by omega)] at this
    omega
  have Hs : Hid (sgnP L k = 1 - 2 * t) := by show _ = _; rw [sgnP, Ht.out]
  rw [Hs.out]
  obtain ⟨d, Hd⟩ : ∃ d : Int, Hid ((L : Int) - k = d) := ⟨_, rfl⟩
  rw [Hd.out] at Ht
  obtain ⟨r, Hr⟩ : ∃ r : Int, Hid (wrap64 (v + (1 - 2 * t)) = r) := ⟨_, rfl⟩
  rw [Hr.out]
  obtain ⟨ej, ej2, ej3⟩ := idxF j (L + 1) hjL
  obtain ⟨M, HM⟩ : ∃ M, Hid (L + 1 = M) := ⟨_, rfl⟩
  rw [HM.out] at h2 ej2
  have q1 : IntKind.i64.wrap (k - (N : Int)) = k - N := IntWalk.i64_in _ (by omega)
  have q2 : IntKind.i64.wrap (k - (N : Int) + s) = (j : Int) := by rw [Hj.out]; exact IntWalk.i64_in _ (by omega)
  have q3 : IntKind.i64.wrap ((L : Int) - k) = d := by rw [Hd.out]; exact IntWalk.i64_in _ (by have := Hd.out; omega)
  have q4 : IntKind.i64.wrap (2 * t) = 2 * t := IntWalk.i64_in _ (by omega)
  have q5 : IntKind.i64.wrap (1 - 2 * t) = 1 - 2 * t := IntWalk.i64_in _ (by omega)
  have q6 : IntKind.i64.wrap (v + (1 - 2 * t)) = r := by rw [← Hr.out]; exact IntWalk.i64_left _
  have q7 : d.tmod 2 = t := Ht.out
  have q8 : IntKind.i64.wrap (d.tmod 2) = t := by rw [q7]; exact IntWalk.i64_in _ (by omega)
  show Calls Try.prog 102 #[.int .i64 k, .int .i64 s, .pointer (some ⟨h + 2, 0, none⟩), .pointer (some ⟨h, 0, none⟩)] W _
  go_enter Try.func102, Try.ntmps102
  go_wp2_with fail
  refine wp_region_noPanic ?_
  refine wp_region_held_drew (S := (fun w' => w'.cell? ⟨h, 0, none⟩ = some (.int .i64 (N : Int)) ∧ w'.cell? ⟨h, 1, none⟩ = some (.slice A L c) ∧ w'.cell? ⟨h + 2, 0, none⟩ = some (.slice (some ⟨h + 1, 0, none⟩) M M))) (by kernel_rfl) ?_ (fun hHeld => ?_)
  · (try dsimp only); (first | go_keep | (obtain ⟨hq, _⟩ := bcell ‹Below _ _ _›; (repeat' apply And.intro) <;> (rw [hq _ _ (by first | assumption | omega | (simp; done) | (simp; omega) | (simp; assumption))] <;> (first | assumption | (simp [*]; done)))))
  refine wpAnyH_take_d (i := 0) (d := some 6) (v := ?v1) rfl rfl (by kernel_rfl) (by kernel_rfl) (by kernel_rfl) (fun _ _ _ h => h) (Or.inl ⟨by kernel_rfl, ?y1⟩) (by assumption) ?_
  case y1 => (intro w' hSw; (try dsimp only at hSw); go_simp; try with_reducible rfl)
  try simp only [Act.put, List.setIfInBounds_toArray, List.set_cons_zero, List.set_cons_succ]
  refine wpAnyH_take_d (i := 1) (d := some 7) (v := ?v2) rfl rfl (by kernel_rfl) (by kernel_rfl) (by kernel_rfl) (fun _ _ _ h => h) (Or.inl ⟨by kernel_rfl, ?y2⟩) (by assumption) ?_
  case y2 => (intro w' hSw; (try dsimp only at hSw); go_simp; try with_reducible rfl)
  try simp only [Act.put, List.setIfInBounds_toArray, List.set_cons_zero, List.set_cons_succ]
  refine wpAnyH_take_d (i := 2) (d := some 8) (v := ?v3) rfl rfl (by kernel_rfl) (by kernel_rfl) (by kernel_rfl) (fun _ _ _ h => h) (Or.inl ⟨by kernel_rfl, ?y3⟩) (by assumption) ?_
  case y3 => (intro w' hSw; (try dsimp only at hSw); go_simp; try with_reducible rfl)
  try simp only [Act.put, List.setIfInBounds_toArray, List.set_cons_zero, List.set_cons_succ]
  refine wpAnyH_take_d (i := 3) (d := some 9) (v := ?v4) rfl rfl (by kernel_rfl) (by kernel_rfl) (by kernel_rfl) (fun _ _ _ h => h) (Or.inl ⟨by kernel_rfl, ?y4⟩) (by assumption) ?_
  case y4 => (intro w' hSw; (try dsimp only at hSw); go_simp; try with_reducible rfl)
  try simp only [Act.put, List.setIfInBounds_toArray, List.set_cons_zero, List.set_cons_succ]
  refine wpAnyH_take_d (i := 4) (d := some 10) (v := ?v5) rfl rfl (by kernel_rfl) (by kernel_rfl) (by kernel_rfl) (fun _ _ _ h => h) (Or.inl ⟨by kernel_rfl, ?y5⟩) (by assumption) ?_
  case y5 => (intro w' hSw; (try dsimp only at hSw); go_simp; try with_reducible rfl)
  try simp only [Act.put, List.setIfInBounds_toArray, List.set_cons_zero, List.set_cons_succ]
  refine wpAnyH_take_d (i := 5) (d := some 11) (v := ?v6) rfl rfl (by kernel_rfl) (by kernel_rfl) (by kernel_rfl) (fun _ _ _ h => h) (Or.inl ⟨by kernel_rfl, ?y6⟩) (by assumption) ?_
  case y6 => (intro w' hSw; (try dsimp only at hSw); go_simp; try with_reducible rfl)
  try simp only [Act.put, List.setIfInBounds_toArray, List.set_cons_zero, List.set_cons_succ]
  refine wpAnyH_take_d (i := 6) (d := some 12) (v := ?v7) rfl rfl (by kernel_rfl) (by kernel_rfl) (by kernel_rfl) (fun _ _ _ h => h) (Or.inl ⟨by kernel_rfl, ?y7⟩) (by assumption) ?_
  case y7 => (intro w' hSw; (try dsimp only at hSw); go_simp; try with_reducible rfl)
  try simp only [Act.put, List.setIfInBounds_toArray, List.set_cons_zero, List.set_cons_succ]
  refine wpAnyH_take_d (i := 7) (d := some 13) (v := ?v8) rfl rfl (by kernel_rfl) (by kernel_rfl) (by kernel_rfl) (fun _ _ _ h => h) (Or.inl ⟨by kernel_rfl, ?y8⟩) (by assumption) ?_
  case y8 => (intro w' hSw; (try dsimp only at hSw); go_simp; try with_reducible rfl)
  try simp only [Act.put, List.setIfInBounds_toArray, List.set_cons_zero, List.set_cons_succ]
  refine wpAnyH_take_d (i := 9) (d := some 15) (v := ?v9) rfl rfl (by kernel_rfl) (by kernel_rfl) (by kernel_rfl) (fun _ _ _ h => h) (Or.inl ⟨by kernel_rfl, ?y9⟩) (by assumption) ?_
  case y9 => (intro w' hSw; (try dsimp only at hSw); go_simp; try with_reducible rfl)
  try simp only [Act.put, List.setIfInBounds_toArray, List.set_cons_zero, List.set_cons_succ]
  refine wpAnyH_take_d (i := 10) (d := some 16) (v := ?v10) rfl rfl (by kernel_rfl) (by kernel_rfl) (by kernel_rfl) (fun _ _ _ h => h) (Or.inl ⟨by kernel_rfl, ?y10⟩) (by assumption) ?_
  case y10 => (intro w' hSw; (try dsimp only at hSw); go_simp; try with_reducible rfl)
  try simp only [Act.put, List.setIfInBounds_toArray, List.set_cons_zero, List.set_cons_succ]
  refine wpAnyH_take_d (i := 12) (d := some 18) (v := ?v11) rfl rfl (by kernel_rfl) (by kernel_rfl) (by kernel_rfl) (fun _ _ _ h => h) (Or.inl ⟨by kernel_rfl, ?y11⟩) (by assumption) ?_
  case y11 => (intro w' hSw; (try dsimp only at hSw); go_simp; try with_reducible rfl)
  try simp only [Act.put, List.setIfInBounds_toArray, List.set_cons_zero, List.set_cons_succ]
  refine wpAnyH_ready (rs := [8, 11]) (by kernel_rfl) (by simp) ?_
  refine AllReadyH.cons rfl (fun K hK => ?_) (AllReadyH.cons rfl (fun K hK => ?_) (AllReadyH.nil))
  · go_simp
    refine hK.out _ _ ?s12 (fun hHeld12 => ?_)
    case s12 => ((try dsimp only); (first | go_keep | (obtain ⟨hq, _⟩ := bcell ‹Below _ _ _›; (repeat' apply And.intro) <;> (rw [hq _ _ (by first | assumption | omega | (simp; done) | (simp; omega) | (simp; assumption))] <;> (first | assumption | (simp [*]; done))))))
    clear hK K hHeld
    have hHeld := hHeld12; clear hHeld12
    try simp only [Act.put, List.setIfInBounds_toArray, List.set_cons_zero, List.set_cons_succ]
    refine wpAnyH_ready (rs := [11]) (by kernel_rfl) (by simp) ?_
    refine AllReadyH.cons rfl (fun K hK => ?_) AllReadyH.nil
    go_simp
    refine (lengthE_any _ _ _ _).mono ?_; rintro e w1 ⟨rfl, rfl⟩
    refine hK.out _ _ ?s13 (fun hHeld13 => ?_)
    case s13 => ((try dsimp only); (first | go_keep | (obtain ⟨hq, _⟩ := bcell ‹Below _ _ _›; (repeat' apply And.intro) <;> (rw [hq _ _ (by first | assumption | omega | (simp; done) | (simp; omega) | (simp; assumption))] <;> (first | assumption | (simp [*]; done))))))
    clear hK K hHeld
    have hHeld := hHeld13; clear hHeld13
    try simp only [Act.put, List.setIfInBounds_toArray, List.set_cons_zero, List.set_cons_succ]
    refine wpAnyH_take_d (i := 13) (d := some 19) (v := ?v14) rfl rfl (by kernel_rfl) (by kernel_rfl) (by kernel_rfl) (fun _ _ _ h => h) (Or.inl ⟨by kernel_rfl, ?y14⟩) (by assumption) ?_
    case y14 => (intro w' hSw; (try dsimp only at hSw); go_simp; try with_reducible rfl)
    try simp only [Act.put, List.setIfInBounds_toArray, List.set_cons_zero, List.set_cons_succ]
    refine wpAnyH_take_d (i := 14) (d := some 20) (v := ?v15) rfl rfl (by kernel_rfl) (by kernel_rfl) (by kernel_rfl) (fun _ _ _ h => h) (Or.inl ⟨by kernel_rfl, ?y15⟩) (by assumption) ?_
    case y15 => (intro w' hSw; (try dsimp only at hSw); go_simp; try with_reducible rfl)
    try simp only [Act.put, List.setIfInBounds_toArray, List.set_cons_zero, List.set_cons_succ]
    refine wpAnyH_take_d (i := 15) (d := some 21) (v := ?v16) rfl rfl (by kernel_rfl) (by kernel_rfl) (by kernel_rfl) (fun _ _ _ h => h) (Or.inl ⟨by kernel_rfl, ?y16⟩) (by assumption) ?_
    case y16 => (intro w' hSw; (try dsimp only at hSw); go_simp; try with_reducible rfl)
    try simp only [Act.put, List.setIfInBounds_toArray, List.set_cons_zero, List.set_cons_succ]
    refine wpAnyH_take_d (i := 16) (d := some 22) (v := ?v17) rfl rfl (by kernel_rfl) (by kernel_rfl) (by kernel_rfl) (fun _ _ _ h => h) (Or.inl ⟨by kernel_rfl, ?y17⟩) (by assumption) ?_
    case y17 => (intro w' hSw; (try dsimp only at hSw); go_simp; try with_reducible rfl)
    try simp only [Act.put, List.setIfInBounds_toArray, List.set_cons_zero, List.set_cons_succ]
    refine wpAnyH_take_d (i := 17) (d := some 23) (v := ?v18) rfl rfl (by kernel_rfl) (by kernel_rfl) (by kernel_rfl) (fun _ _ _ h => h) (Or.inl ⟨by kernel_rfl, ?y18⟩) (by assumption) ?_
    case y18 => (intro w' hSw; (try dsimp only at hSw); go_simp; try with_reducible rfl)
    try simp only [Act.put, List.setIfInBounds_toArray, List.set_cons_zero, List.set_cons_succ]
    refine wpAnyH_take_d (i := 18) (d := some 24) (v := ?v19) rfl rfl (by kernel_rfl) (by kernel_rfl) (by kernel_rfl) (fun _ _ _ h => h) (Or.inl ⟨by kernel_rfl, ?y19⟩) (by assumption) ?_
    case y19 => (intro w' hSw; (try dsimp only at hSw); go_simp; try with_reducible rfl)
    try simp only [Act.put, List.setIfInBounds_toArray, List.set_cons_zero, List.set_cons_succ]
    refine wpAnyH_ready (rs := [19]) (by kernel_rfl) (by simp) ?_
    refine AllReadyH.cons rfl (fun K hK => ?_) AllReadyH.nil
    go_simp
    refine hK.out _ _ ?s20 (fun hHeld20 => ?_)
    case s20 => ((try dsimp only); (first | go_keep | (obtain ⟨hq, _⟩ := bcell ‹Below _ _ _›; (repeat' apply And.intro) <;> (rw [hq _ _ (by first | assumption | omega | (simp; done) | (simp; omega) | (simp; assumption))] <;> (first | assumption | (simp [*]; done))))))
    clear hK K hHeld
    have hHeld := hHeld20; clear hHeld20
    try simp only [Act.put, List.setIfInBounds_toArray, List.set_cons_zero, List.set_cons_succ]
    refine wpAnyH_done (by kernel_rfl) ?_ _
    refine NoPanic.normal ?_
    go_wp2
    go_end0
    clear q1 q2 q3 q4 q5 q6 q7 q8 hHeld
    have I := HI.out
    refine ⟨rfl, ((SameBut.refl _ _).set j _).of_below' (Below.drew (Below.refl _ _)) (Nat.le_refl _), ((Below.refl _ _).setCell (by exact Nat.le_refl _) _).drew, ?_⟩
    refine ⟨by simpa [World.setCell] using hlt, (sc_other (addr_ne (.inl (by omega)))).trans I.c0, (sc_other (addr_ne (.inl (by omega)))).trans I.c1, (sc_other (addr_ne (.inl (by omega)))).trans I.c2, (blkI_set I.blk rfl).drew, by rw [List.length_set]; exact I.len⟩
  · go_simp
    refine (lengthE_any _ _ _ _).mono ?_; rintro e w1 ⟨rfl, rfl⟩
    refine hK.out _ _ ?s21 (fun hHeld21 => ?_)
    case s21 => ((try dsimp only); (first | go_keep | (obtain ⟨hq, _⟩ := bcell ‹Below _ _ _›; (repeat' apply And.intro) <;> (rw [hq _ _ (by first | assumption | omega | (simp; done) | (simp; omega) | (simp; assumption))] <;> (first | assumption | (simp [*]; done))))))
    clear hK K hHeld
    have hHeld := hHeld21; clear hHeld21
    try simp only [Act.put, List.setIfInBounds_toArray, List.set_cons_zero, List.set_cons_succ]
    refine wpAnyH_take_d (i := 13) (d := some 19) (v := ?v22) rfl rfl (by kernel_rfl) (by kernel_rfl) (by kernel_rfl) (fun _ _ _ h => h) (Or.inl ⟨by kernel_rfl, ?y22⟩) (by assumption) ?_
    case y22 => (intro w' hSw; (try dsimp only at hSw); go_simp; try with_reducible rfl)
    try simp only [Act.put, List.setIfInBounds_toArray, List.set_cons_zero, List.set_cons_succ]
    refine wpAnyH_take_d (i := 14) (d := some 20) (v := ?v23) rfl rfl (by kernel_rfl) (by kernel_rfl) (by kernel_rfl) (fun _ _ _ h => h) (Or.inl ⟨by kernel_rfl, ?y23⟩) (by assumption) ?_
    case y23 => (intro w' hSw; (try dsimp only at hSw); go_simp; try with_reducible rfl)
    try simp only [Act.put, List.setIfInBounds_toArray, List.set_cons_zero, List.set_cons_succ]
    refine wpAnyH_take_d (i := 15) (d := some 21) (v := ?v24) rfl rfl (by kernel_rfl) (by kernel_rfl) (by kernel_rfl) (fun _ _ _ h => h) (Or.inl ⟨by kernel_rfl, ?y24⟩) (by assumption) ?_
    case y24 => (intro w' hSw; (try dsimp only at hSw); go_simp; try with_reducible rfl)
    try simp only [Act.put, List.setIfInBounds_toArray, List.set_cons_zero, List.set_cons_succ]
    refine wpAnyH_take_d (i := 16) (d := some 22) (v := ?v25) rfl rfl (by kernel_rfl) (by kernel_rfl) (by kernel_rfl) (fun _ _ _ h => h) (Or.inl ⟨by kernel_rfl, ?y25⟩) (by assumption) ?_
    case y25 => (intro w' hSw; (try dsimp only at hSw); go_simp; try with_reducible rfl)
    try simp only [Act.put, List.setIfInBounds_toArray, List.set_cons_zero, List.set_cons_succ]
    refine wpAnyH_ready (rs := [8]) (by kernel_rfl) (by simp) ?_
    refine AllReadyH.cons rfl (fun K hK => ?_) AllReadyH.nil
    go_simp
    refine hK.out _ _ ?s26 (fun hHeld26 => ?_)
    case s26 => ((try dsimp only); (first | go_keep | (obtain ⟨hq, _⟩ := bcell ‹Below _ _ _›; (repeat' apply And.intro) <;> (rw [hq _ _ (by first | assumption | omega | (simp; done) | (simp; omega) | (simp; assumption))] <;> (first | assumption | (simp [*]; done))))))
    clear hK K hHeld
    have hHeld := hHeld26; clear hHeld26
    try simp only [Act.put, List.setIfInBounds_toArray, List.set_cons_zero, List.set_cons_succ]
    refine wpAnyH_take_d (i := 17) (d := some 23) (v := ?v27) rfl rfl (by kernel_rfl) (by kernel_rfl) (by kernel_rfl) (fun _ _ _ h => h) (Or.inl ⟨by kernel_rfl, ?y27⟩) (by assumption) ?_
    case y27 => (intro w' hSw; (try dsimp only at hSw); go_simp; try with_reducible rfl)
    try simp only [Act.put, List.setIfInBounds_toArray, List.set_cons_zero, List.set_cons_succ]
    refine wpAnyH_take_d (i := 18) (d := some 24) (v := ?v28) rfl rfl (by kernel_rfl) (by kernel_rfl) (by kernel_rfl) (fun _ _ _ h => h) (Or.inl ⟨by kernel_rfl, ?y28⟩) (by assumption) ?_
    case y28 => (intro w' hSw; (try dsimp only at hSw); go_simp; try with_reducible rfl)
    try simp only [Act.put, List.setIfInBounds_toArray, List.set_cons_zero, List.set_cons_succ]
    refine wpAnyH_ready (rs := [19]) (by kernel_rfl) (by simp) ?_
    refine AllReadyH.cons rfl (fun K hK => ?_) AllReadyH.nil
    go_simp
    refine hK.out _ _ ?s29 (fun hHeld29 => ?_)
    case s29 => ((try dsimp only); (first | go_keep | (obtain ⟨hq, _⟩ := bcell ‹Below _ _ _›; (repeat' apply And.intro) <;> (rw [hq _ _ (by first | assumption | omega | (simp; done) | (simp; omega) | (simp; assumption))] <;> (first | assumption | (simp [*]; done))))))
    clear hK K hHeld
    have hHeld := hHeld29; clear hHeld29
    try simp only [Act.put, List.setIfInBounds_toArray, List.set_cons_zero, List.set_cons_succ]
    refine wpAnyH_done (by kernel_rfl) ?_ _
    refine NoPanic.normal ?_
    go_wp2
    go_end0
    clear q1 q2 q3 q4 q5 q6 q7 q8 hHeld
    have I := HI.out
    refine ⟨rfl, ((SameBut.refl _ _).set j _).of_below' (Below.drew (Below.refl _ _)) (Nat.le_refl _), ((Below.refl _ _).setCell (by exact Nat.le_refl _) _).drew, ?_⟩
    refine ⟨by simpa [World.setCell] using hlt, (sc_other (addr_ne (.inl (by omega)))).trans I.c0, (sc_other (addr_ne (.inl (by omega)))).trans I.c1, (sc_other (addr_ne (.inl (by omega)))).trans I.c2, (blkI_set I.blk rfl).drew, by rw [List.length_set]; exact I.len⟩

end Go.Proofs.Ytkpnplldnihalaa

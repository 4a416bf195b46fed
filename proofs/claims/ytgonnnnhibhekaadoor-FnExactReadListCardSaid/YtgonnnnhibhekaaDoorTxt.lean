/-
  Numbers as decimal texts: the reference's own text of a number.
-/
import Derived.Test.YtgonnnnhibhekaaDoorPost
import Derived.Test.YtgonnnnhibhekaaDoorChecked
import Derived.WalkKit
import Derived.WalkSpells
import Derived.Laws.IdiomStrings
import Derived.Laws.OwnMore
import Derived.Lib.ItoaMem
import Derived.Lib.ItoaLen
namespace Go.Proofs.YtgonnnnhibhekaaDoor
set_option linter.unusedVariables false
set_option linter.unusedSimpArgs false
open Go.RowKit

/-- The cell of a byte. -/
def bcell (b : UInt8) : Value := .int .u8 (b.toNat : Int)
/-- Of the number z the digits l are still to come ahead of the digits L: of u's numeral. -/
def DecI (u : Nat) (k : Nat) (z : Int) (L : List UInt8) : Prop := L.length = k ∧ ((k = 0 ∧ z.natAbs = u) ∨ (k ≠ 0 ∧ z = 0 ∧ Lib.decDigits u = L) ∨ (k ≠ 0 ∧ z ≠ 0 ∧ Lib.decDigits u = Lib.decDigits z.natAbs ++ L))
theorem DecI.start (n : Int) : DecI n.natAbs 0 n [] := ⟨rfl, .inl ⟨rfl, rfl⟩⟩
theorem dec_step {u k : Nat} {z : Int} {L : List UInt8} (h : DecI u k z L) (hne : k = 0 ∨ z ≠ 0) : DecI u (k + 1) (z.tdiv 10) (UInt8.ofNat (48 + z.natAbs % 10) :: L) := by
  have hz : (z.tdiv 10).natAbs = z.natAbs / 10 := by rw [Int.natAbs_tdiv]; rfl
  have key : Lib.decDigits u = Lib.decDigits z.natAbs ++ L := by
    rcases h.2 with ⟨h1, h2⟩ | ⟨h1, h2, _⟩ | ⟨_, _, h3⟩
    · have : L = [] := List.length_eq_zero_iff.1 (by rw [h.1]; exact h1)
      rw [this, h2, List.append_nil]
    · exact absurd h2 (hne.resolve_left h1)
    · exact h3
  refine ⟨by simp [h.1], .inr ?_⟩
  by_cases hlt : z.natAbs < 10
  · refine .inl ⟨by omega, by omega, ?_⟩
    rw [key, Lib.decDigits, dif_pos hlt, Nat.mod_eq_of_lt hlt]
    rfl
  · refine .inr ⟨by omega, by omega, ?_⟩
    rw [key, Lib.decDigits, dif_neg hlt, hz]
    simp
theorem DecI.done {u k : Nat} {L : List UInt8} (h : DecI u k 0 L) (hk : k ≠ 0) : Lib.decDigits u = L := by
  rcases h.2 with ⟨h1, _⟩ | ⟨_, _, h3⟩ | ⟨_, h2, _⟩
  · exact absurd h1 hk
  · exact h3
  · exact absurd rfl h2
theorem DecI.le {u k : Nat} {z : Int} {L : List UInt8} (h : DecI u k z L) (hu : u < 18446744073709551616) : k ≤ 20 := by
  have h20 := Lib.nDigits_le20 u hu
  rw [← Lib.decDigits_length] at h20
  rcases h.2 with ⟨h1, _⟩ | ⟨_, _, h3⟩ | ⟨_, _, h3⟩
  · omega
  · rw [h3, h.1] at h20; exact h20
  · rw [h3, List.length_append, h.1] at h20; omega
theorem tmod10 (z : Int) : z.tmod 10 = ((z.natAbs % 10 : Nat) : Int) ∨ z.tmod 10 = -((z.natAbs % 10 : Nat) : Int) := by
  rcases Int.natAbs_eq z with h | h
  · left
    conv => lhs; rw [h]
    exact (Int.ofNat_tmod _ _).symm
  · right
    conv => lhs; rw [h]
    rw [Int.neg_tmod]
    congr 1
theorem tdiv10 (z : Int) : (z.tdiv 10).natAbs = z.natAbs / 10 := by rw [Int.natAbs_tdiv]; rfl
theorem bcell_dig {d : Nat} (h : d < 10) : bcell (UInt8.ofNat (48 + d)) = .int .u8 (48 + (d : Int)) := by
  unfold bcell
  rw [UInt8.toNat_ofNat_of_lt' (by show 48 + d < 256; omega)]
  simp
theorem own_slice {w : World} {B : Nat} {e : TypeId} {s : Nat} {v : Value} {n : Nat} {xs : List Value} (h : w.ownsRow B e s v (n + 1) xs) : ∃ g cap, v = .slice (some ⟨g, 0, none⟩) (n + 1) cap := by
  obtain ⟨_, ⟨_, h0⟩ | ⟨g, cap, _, h1, _⟩⟩ := h
  · cases h0
  · exact ⟨g, cap, h1⟩
theorem bcell_one : ∀ {L : List UInt8}, ∀ u ∈ L.map bcell, u.oneCell' = true := by
  intro L u hu
  obtain ⟨b, _, rfl⟩ := List.mem_map.1 hu
  rfl
theorem infoB : (Tryd.prog.info? 5).map (fun i => (i.zero, i.size, i.bytes)) = some (some (.int .u8 0), 1, 1) := by kernel_rfl
theorem info_parts {P : Program} {t : TypeId} {z : Value} {s b : Nat} (h : (P.info? t).map (fun i => (i.zero, i.size, i.bytes)) = some (some z, s, b)) : ∃ i, P.info? t = some i ∧ i.zero = some z ∧ i.size = s ∧ i.bytes = b := by
  cases hi : P.info? t with
  | none => rw [hi] at h; cases h
  | some i =>
    rw [hi] at h
    simp only [Option.map_some, Option.some.injEq, Prod.mk.injEq] at h
    exact ⟨i, rfl, h.1, h.2.1, h.2.2⟩
theorem text_run (w : World) {B : Nat} (g cap : Nat) {k : Nat} (L : List UInt8) (hl : L.length = k) (h : w.ownsRow B 5 1 (.slice (some ⟨g, 0, none⟩) k cap) k (L.map bcell)) :
    (convert 46 9 (.slice (some ⟨g, 0, none⟩) k cap)).run Tryd.prog w = .ok (.string ⟨L.toArray⟩) w := by
  have hc : ∀ j (hj : j < L.length), w.cell? ((⟨g, 0, none⟩ : Addr).add j) = some (.int .u8 (L[j].toNat : Int)) := by
    intro j hj
    have := h.cells (g := g) rfl j (bcell L[j]) (by simp [hj])
    exact this
  have := run_convert_bytes_back (P := Tryd.prog) w 46 9 5 ⟨g, 0, none⟩ cap L Tryd.underlying46 Tryd.underlying5 Tryd.underlying9 hc
  rw [hl] at this
  exact this
set_option maxHeartbeats 4000000 in
theorem l01Dec_any (n : Int) (h0 : -9223372036854775808 ≤ n) (h1 : n ≤ 9223372036854775807) (w : World) :
    Calls Tryd.prog 22 #[.int .i64 n] w fun e w' => e = .returned (.string ⟨(Lib.itoa n).toArray⟩) ∧ Below w.heap.size w w' := by
  obtain ⟨i0, hi, hz0_, hz1, hz2⟩ := info_parts infoB
  go_enter Tryd.func22, Tryd.ntmps22
  go_wp2_with fail
  go_simp
  have hown0 : (w.alloc (.cells #[] 5)).ownsRow w.heap.size 5 1 (.slice (some ⟨w.heap.size, 0, none⟩) 0 0) 0 [] :=
    World.ownsRow_made (base := w.heap.size) (e := 5) (size := 1) w #[] 0 (Nat.le_refl _) (Nat.zero_le _) rfl
  go_loopw [3, 4] (fun v i wr => ∃ (k : Nat) (z : Int) (L : List UInt8) (g : Nat) (cap : Nat), i = .int .i64 z ∧ v = .slice (some ⟨g, 0, none⟩) k cap ∧ Hid (DecI n.natAbs k z L) ∧ -9223372036854775808 ≤ z ∧ z ≤ 9223372036854775807 ∧ k ≤ 40 ∧ wr.ownsRow w.heap.size 5 1 (.slice (some ⟨g, 0, none⟩) k cap) k (L.map bcell) ∧ Below w.heap.size w wr) (fun v i _ => (intOf i).natAbs * 2 + (match v with | .slice _ 0 _ => 1 | _ => 0))
  case atStart => exact ⟨0, n, [], _, _, rfl, rfl, Lib.hid (DecI.start n), h0, h1, by omega, hown0, (Below.refl _ _).alloc (Nat.le_refl _) _⟩
  case round =>
    clear hown0
    obtain ⟨k, z, L, g, cap, rfl, rfl, hD, z0, z1, hk, hown, hW⟩ := hrel
    have hk20 := hD.out.le (by omega)
    obtain ⟨d, hd⟩ : ∃ d, d = z.natAbs % 10 := ⟨_, rfl⟩
    have hd10 : d < 10 := by omega
    have hq : z.tmod 10 = (d : Int) ∨ z.tmod 10 = -(d : Int) := by rw [hd]; exact tmod10 z
    have hdiv := tdiv10 z
    have ZZ := Lib.hid (show -9223372036854775808 ≤ z.tdiv 10 ∧ z.tdiv 10 ≤ 9223372036854775807 by omega)
    have hs := hW.size
    by_cases hgo : k = 0 ∨ z ≠ 0
    · have HS := Lib.hid (show DecI n.natAbs (k + 1) (z.tdiv 10) (UInt8.ofNat (48 + d) :: L) by rw [hd]; exact dec_step hD.out hgo)
      have hlit : (wr.alloc (.cells #[.int .u8 (48 + (d : Int))] 5)).ownsRow w.heap.size 5 1 (.slice (some ⟨wr.heap.size, 0, none⟩) 1 1) 1 [.int .u8 (48 + (d : Int))] :=
        World.ownsRow_lit (base := w.heap.size) (e := 5) (size := 1) wr #[.int .u8 (48 + (d : Int))] 1 hs (by decide) rfl
      have HLIT := Lib.hid hlit
      have hw1 : IntKind.u8.wrap (48 + (d : Int)) = 48 + (d : Int) := by unfold IntKind.wrap; simp [IntKind.bits, IntKind.signed]; omega
      have HDIV := Lib.hid hdiv
      have hdi : (d : Int) < 10 := by omega
      clear hd hdiv hlit
      have hcase : z.tmod 10 = (d : Int) ∨ (0 < (d : Int) ∧ z.tmod 10 = -(d : Int)) := by omega
      clear hq
      have hdn : ¬ (d : Int) < 0 := by omega
      have hd0 : (0 : Int) ≤ (d : Int) := by omega
      rcases hcase with hq | ⟨hdp, hq⟩
      · have hdm : z.tmod 10 = (d : Int) := hq
        clear hq
        by_cases hk0 : k = 0
        · subst hk0
          have e0 : L = [] := List.length_eq_zero_iff.1 hD.out.1
          go_wp2_with fail
          refine ⟨⟨1, _, _, _, _, rfl, rfl, HS, ZZ.out.1, ZZ.out.2, by omega, ?_, hW.alloc hs _⟩, ?_⟩
          · rw [e0, List.map_cons, bcell_dig hd10]
            exact HLIT.out
          · have := HDIV.out
            simp only [intOf]
            omega
        · have hz0 : z ≠ 0 := hgo.resolve_left hk0
          have b1 : ((k : Int) == 0) = false := by simp; omega
          have b2 : (z == 0) = false := by simp; omega
          have b3 : (z != 0) = true := by simp; omega
          have hcs : ∀ j u, (L.map bcell)[j]? = some u → (wr.alloc (.cells #[.int .u8 (48 + (d : Int))] 5)).cell? ((⟨g, 0, none⟩ : Addr).add j) = some u := by
            intro j u hj
            exact (hown.alloc (.cells #[.int .u8 (48 + (d : Int))] 5)).cells (g := g) rfl j u hj
          have hcl : (L.map bcell).length = k := by simpa using hD.out.1
          have hco : ∀ u ∈ L.map bcell, u.oneCell' = true := bcell_one
          have HE := Lib.hid (show (UInt8.ofNat (48 + d) :: L).map bcell = .int .u8 (48 + (d : Int)) :: L.map bcell by rw [List.map_cons, bcell_dig hd10])
          generalize L.map bcell = cs at *
          have HCS := Lib.hid hcs
          have HCO := Lib.hid hco
          have HDL := Lib.hid hcl
          clear hcl hco
          have HZ := Lib.hid hz0
          clear hcs hz0
          go_wp2_with (at_builtin; refine wpList_append_own _ rfl (.tmp 24) (.tmp 25) 46 rfl w.heap.size 5 i0 (.int .u8 0) 1 1 Tryd.underlying46 hi hz0_ hz1 hz2 rfl (by decide) _ _ _ rfl HLIT.out ⟨g, 0, none⟩ k _ cs rfl ?c1 ?c2 ?c3 ?c4 ?c5 ?c6 ?_)
          case c1 => have := HDL.out; omega
          case c2 => first | exact HCS.out | exact fun j u hj => by have := HCS.out j u hj; rw [Addr.add_lit] at this; simpa using this
          case c3 => exact HCO.out
          case c4 => unfold maxLen; omega
          case c5 => omega
          case c6 => have := hW.size; simp; omega
          intro v' w1 hown' hgrow _
          rw [Nat.add_comm 1 k] at hown'
          obtain ⟨g', cap', rfl⟩ := own_slice hown'
          have hW2 : Below w.heap.size w w1 := Below.grown (hW.alloc hs _) hgrow (by simp; omega) (fun g hg => (HLIT.out.lt g hg).1)
          clear hgrow hown
          go_wp2_with fail
          refine ⟨⟨k + 1, _, _, _, _, rfl, rfl, HS, ZZ.out.1, ZZ.out.2, by omega, ?_, hW2⟩, ?_⟩
          · rw [HE.out]
            exact hown'
          · have := HDIV.out
            have := HZ.out
            simp only [intOf]
            omega
      · have HQ := Lib.hid hq
        have hql : z.tmod 10 < 0 := by have := HQ.out; omega
        have hqn : -z.tmod 10 = (d : Int) := by have := HQ.out; omega
        clear hq hdn hdp
        by_cases hk0 : k = 0
        · subst hk0
          have e0 : L = [] := List.length_eq_zero_iff.1 hD.out.1
          go_wp2_with fail
          refine ⟨⟨1, _, _, _, _, rfl, rfl, HS, ZZ.out.1, ZZ.out.2, by omega, ?_, hW.alloc hs _⟩, ?_⟩
          · rw [e0, List.map_cons, bcell_dig hd10]
            exact HLIT.out
          · have := HDIV.out
            simp only [intOf]
            omega
        · have hz0 : z ≠ 0 := hgo.resolve_left hk0
          have b1 : ((k : Int) == 0) = false := by simp; omega
          have b2 : (z == 0) = false := by simp; omega
          have b3 : (z != 0) = true := by simp; omega
          have hcs : ∀ j u, (L.map bcell)[j]? = some u → (wr.alloc (.cells #[.int .u8 (48 + (d : Int))] 5)).cell? ((⟨g, 0, none⟩ : Addr).add j) = some u := by
            intro j u hj
            exact (hown.alloc (.cells #[.int .u8 (48 + (d : Int))] 5)).cells (g := g) rfl j u hj
          have hcl : (L.map bcell).length = k := by simpa using hD.out.1
          have hco : ∀ u ∈ L.map bcell, u.oneCell' = true := bcell_one
          have HE := Lib.hid (show (UInt8.ofNat (48 + d) :: L).map bcell = .int .u8 (48 + (d : Int)) :: L.map bcell by rw [List.map_cons, bcell_dig hd10])
          generalize L.map bcell = cs at *
          have HCS := Lib.hid hcs
          have HCO := Lib.hid hco
          have HDL := Lib.hid hcl
          clear hcl hco
          have HZ := Lib.hid hz0
          clear hcs hz0
          go_wp2_with (at_builtin; refine wpList_append_own _ rfl (.tmp 24) (.tmp 25) 46 rfl w.heap.size 5 i0 (.int .u8 0) 1 1 Tryd.underlying46 hi hz0_ hz1 hz2 rfl (by decide) _ _ _ rfl HLIT.out ⟨g, 0, none⟩ k _ cs rfl ?c1 ?c2 ?c3 ?c4 ?c5 ?c6 ?_)
          case c1 => have := HDL.out; omega
          case c2 => first | exact HCS.out | exact fun j u hj => by have := HCS.out j u hj; rw [Addr.add_lit] at this; simpa using this
          case c3 => exact HCO.out
          case c4 => unfold maxLen; omega
          case c5 => omega
          case c6 => have := hW.size; simp; omega
          intro v' w1 hown' hgrow _
          rw [Nat.add_comm 1 k] at hown'
          obtain ⟨g', cap', rfl⟩ := own_slice hown'
          have hW2 : Below w.heap.size w w1 := Below.grown (hW.alloc hs _) hgrow (by simp; omega) (fun g hg => (HLIT.out.lt g hg).1)
          clear hgrow hown
          go_wp2_with fail
          refine ⟨⟨k + 1, _, _, _, _, rfl, rfl, HS, ZZ.out.1, ZZ.out.2, by omega, ?_, hW2⟩, ?_⟩
          · rw [HE.out]
            exact hown'
          · have := HDIV.out
            have := HZ.out
            simp only [intOf]
            omega
    · have hk0 : k ≠ 0 := fun e => hgo (.inl e)
      have hz0 : z = 0 := Decidable.not_not.1 (fun e => hgo (.inr e))
      subst hz0
      have hdone := hD.out.done hk0
      have b1 : ((k : Int) == 0) = false := by simp; omega
      have hlen := hD.out.1
      have hcl : (L.map bcell).length = k := by simpa using hlen
      clear hq hdiv ZZ hd hgo
      by_cases hn : n < 0
      · have hit : Lib.itoa n = 45 :: L := by unfold Lib.itoa; rw [if_pos hn, hdone]
        have HLIT := Lib.hid (World.ownsRow_lit (base := w.heap.size) (e := 5) (size := 1) wr #[.int .u8 45] 1 hs (by decide) rfl)
        have hcs : ∀ j u, (L.map bcell)[j]? = some u → (wr.alloc (.cells #[.int .u8 45] 5)).cell? ((⟨g, 0, none⟩ : Addr).add j) = some u := by
          intro j u hj
          exact (hown.alloc (.cells #[.int .u8 45] 5)).cells (g := g) rfl j u hj
        have hco : ∀ u ∈ L.map bcell, u.oneCell' = true := bcell_one
        have HE := Lib.hid (show (45 :: L).map bcell = .int .u8 45 :: L.map bcell from rfl)
        have HIT := Lib.hid hit
        have HLEN := Lib.hid hlen
        generalize L.map bcell = cs at *
        have HCS := Lib.hid hcs
        have HCO := Lib.hid hco
        have HDL := Lib.hid hcl
        clear hcl hco hcs hit hlen hdone
        go_wp2_with (at_builtin; refine wpList_append_own _ rfl (.tmp 31) (.tmp 32) 46 rfl w.heap.size 5 i0 (.int .u8 0) 1 1 Tryd.underlying46 hi hz0_ hz1 hz2 rfl (by decide) _ _ _ rfl HLIT.out ⟨g, 0, none⟩ k _ cs rfl ?c1 ?c2 ?c3 ?c4 ?c5 ?c6 ?_)
        case c1 => have := HDL.out; omega
        case c2 => first | exact HCS.out | exact fun j u hj => by have := HCS.out j u hj; rw [Addr.add_lit] at this; simpa using this
        case c3 => exact HCO.out
        case c4 => unfold maxLen; omega
        case c5 => omega
        case c6 => have := hW.size; simp; omega
        intro v' w1 hown' hgrow _
        rw [Nat.add_comm 1 k] at hown'
        obtain ⟨g', cap', rfl⟩ := own_slice hown'
        have hW2 : Below w.heap.size w w1 := Below.grown (hW.alloc hs _) hgrow (by simp; omega) (fun g hg => (HLIT.out.lt g hg).1)
        have hown2 : w1.ownsRow w.heap.size 5 1 (.slice (some ⟨g', 0, none⟩) (k + 1) cap') (k + 1) ((45 :: L).map bcell) := by rw [HE.out]; exact hown'
        have hcv := text_run w1 g' cap' (45 :: L) (by simp [HLEN.out]) hown2
        clear hgrow hown hown' hown2
        go_wp2_with fail
        go_ret
        exact ⟨by rw [HIT.out]; rfl, hW2⟩
      · have hit : Lib.itoa n = L := by
          unfold Lib.itoa
          rw [if_neg hn, ← hdone, show n.toNat = n.natAbs by omega]
        have HIT := Lib.hid hit
        have hcv := text_run wr g cap L hlen hown
        clear hit hdone hlen hcl hown
        go_wp2_with fail
        go_ret
        exact ⟨by rw [HIT.out]; rfl, hW⟩
end Go.Proofs.YtgonnnnhibhekaaDoor

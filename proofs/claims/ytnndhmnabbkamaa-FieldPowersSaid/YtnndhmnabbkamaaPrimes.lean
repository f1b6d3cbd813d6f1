/-
  The two primes of the program are primes; Fermat's little theorem for them.
  Conditions: none.
-/
import Derived.Test.YtnndhmnabbkamaaFermat
namespace Go.Ev
set_option maxRecDepth 100000

theorem pr0 : Prim 257 := small_prim (by decide +kernel)
theorem pr1 : Prim 2 := small_prim (by decide +kernel)
theorem pr2 : Prim 3 := small_prim (by decide +kernel)
theorem pr3 : Prim 641 := small_prim (by decide +kernel)
theorem pr4 : Prim 5 := small_prim (by decide +kernel)
theorem pr5 : Prim 65537 := small_prim (by decide +kernel)
theorem pr6 : Prim 17449 := small_prim (by decide +kernel)
theorem ce7 : Cert 6700417 5 [2, 2, 2, 2, 2, 2, 2, 3, 17449] := cert_of (by decide +kernel) (fun q hq => by
    simp only [List.mem_cons, List.mem_nil_iff, or_false] at hq
    rcases hq with rfl | rfl | rfl | rfl | rfl | rfl | rfl | rfl | rfl <;> first | exact pr1 | exact pr2 | exact pr6)
theorem pr7 : Prim 6700417 := ce7.is_prim
theorem pr8 : Prim 2411 := small_prim (by decide +kernel)
theorem pr9 : Prim 17 := small_prim (by decide +kernel)
theorem pr10 : Prim 197 := small_prim (by decide +kernel)
theorem pr11 : Prim 173 := small_prim (by decide +kernel)
theorem pr12 : Prim 53 := small_prim (by decide +kernel)
theorem pr13 : Prim 3677 := small_prim (by decide +kernel)
theorem ce14 : Cert 66417393611 6 [2, 5, 53, 173, 197, 3677] := cert_of (by decide +kernel) (fun q hq => by
    simp only [List.mem_cons, List.mem_nil_iff, or_false] at hq
    rcases hq with rfl | rfl | rfl | rfl | rfl | rfl <;> first | exact pr1 | exact pr4 | exact pr12 | exact pr11 | exact pr10 | exact pr13)
theorem pr14 : Prim 66417393611 := ce14.is_prim
theorem ce15 : Cert 11290956913871 13 [2, 5, 17, 66417393611] := cert_of (by decide +kernel) (fun q hq => by
    simp only [List.mem_cons, List.mem_nil_iff, or_false] at hq
    rcases hq with rfl | rfl | rfl | rfl <;> first | exact pr1 | exact pr4 | exact pr9 | exact pr14)
theorem pr15 : Prim 11290956913871 := ce15.is_prim
theorem pr16 : Prim 78283 := small_prim (by decide +kernel)
theorem pr17 : Prim 23 := small_prim (by decide +kernel)
theorem pr18 : Prim 18169 := small_prim (by decide +kernel)
theorem pr19 : Prim 313 := small_prim (by decide +kernel)
theorem ce20 : Cert 704251 2 [2, 3, 3, 5, 5, 5, 313] := cert_of (by decide +kernel) (fun q hq => by
    simp only [List.mem_cons, List.mem_nil_iff, or_false] at hq
    rcases hq with rfl | rfl | rfl | rfl | rfl | rfl | rfl <;> first | exact pr1 | exact pr2 | exact pr4 | exact pr19)
theorem pr20 : Prim 704251 := ce20.is_prim
theorem ce21 : Cert 46076956964474543 5 [2, 23, 18169, 78283, 704251] := cert_of (by decide +kernel) (fun q hq => by
    simp only [List.mem_cons, List.mem_nil_iff, or_false] at hq
    rcases hq with rfl | rfl | rfl | rfl | rfl <;> first | exact pr1 | exact pr17 | exact pr18 | exact pr16 | exact pr20)
theorem pr21 : Prim 46076956964474543 := ce21.is_prim
theorem pr22 : Prim 107 := small_prim (by decide +kernel)
theorem pr23 : Prim 11 := small_prim (by decide +kernel)
theorem pr24 : Prim 3769 := small_prim (by decide +kernel)
theorem ce25 : Cert 204061199 11 [2, 11, 23, 107, 3769] := cert_of (by decide +kernel) (fun q hq => by
    simp only [List.mem_cons, List.mem_nil_iff, or_false] at hq
    rcases hq with rfl | rfl | rfl | rfl | rfl <;> first | exact pr1 | exact pr23 | exact pr17 | exact pr22 | exact pr24)
theorem pr25 : Prim 204061199 := ce25.is_prim
theorem pr26 : Prim 7 := small_prim (by decide +kernel)
theorem ce27 : Cert 34282281433 17 [2, 2, 2, 3, 7, 204061199] := cert_of (by decide +kernel) (fun q hq => by
    simp only [List.mem_cons, List.mem_nil_iff, or_false] at hq
    rcases hq with rfl | rfl | rfl | rfl | rfl | rfl <;> first | exact pr1 | exact pr2 | exact pr26 | exact pr25)
theorem pr27 : Prim 34282281433 := ce27.is_prim
theorem ce28 : Cert 774023187263532362759620327192479577272145303 3 [2, 3, 3, 2411, 34282281433, 11290956913871, 46076956964474543] := cert_of (by decide +kernel) (fun q hq => by
    simp only [List.mem_cons, List.mem_nil_iff, or_false] at hq
    rcases hq with rfl | rfl | rfl | rfl | rfl | rfl | rfl <;> first | exact pr1 | exact pr2 | exact pr8 | exact pr27 | exact pr15 | exact pr21)
theorem pr28 : Prim 774023187263532362759620327192479577272145303 := ce28.is_prim
theorem ce29 : Cert 835945042244614951780389953367877943453916927241 11 [2, 2, 2, 3, 3, 3, 5, 774023187263532362759620327192479577272145303] := cert_of (by decide +kernel) (fun q hq => by
    simp only [List.mem_cons, List.mem_nil_iff, or_false] at hq
    rcases hq with rfl | rfl | rfl | rfl | rfl | rfl | rfl | rfl <;> first | exact pr1 | exact pr2 | exact pr4 | exact pr28)
theorem pr29 : Prim 835945042244614951780389953367877943453916927241 := ce29.is_prim
theorem pr30 : Prim 1531 := small_prim (by decide +kernel)
theorem pr31 : Prim 661 := small_prim (by decide +kernel)
theorem ce32 : Cert 490463 14 [2, 7, 53, 661] := cert_of (by decide +kernel) (fun q hq => by
    simp only [List.mem_cons, List.mem_nil_iff, or_false] at hq
    rcases hq with rfl | rfl | rfl | rfl <;> first | exact pr1 | exact pr26 | exact pr12 | exact pr31)
theorem pr32 : Prim 490463 := ce32.is_prim
theorem ce33 : Cert 115792089210356248762697446949407573530086143415290314195533631308867097853951 6 [2, 3, 5, 5, 17, 257, 641, 1531, 65537, 490463, 6700417, 835945042244614951780389953367877943453916927241] := cert_of (by decide +kernel) (fun q hq => by
    simp only [List.mem_cons, List.mem_nil_iff, or_false] at hq
    rcases hq with rfl | rfl | rfl | rfl | rfl | rfl | rfl | rfl | rfl | rfl | rfl | rfl <;> first | exact pr1 | exact pr2 | exact pr4 | exact pr9 | exact pr0 | exact pr3 | exact pr30 | exact pr5 | exact pr32 | exact pr7 | exact pr29)
theorem pr33 : Prim 115792089210356248762697446949407573530086143415290314195533631308867097853951 := ce33.is_prim
theorem pr34 : Prim 131 := small_prim (by decide +kernel)
theorem pr35 : Prim 71 := small_prim (by decide +kernel)
theorem pr36 : Prim 38189 := small_prim (by decide +kernel)
theorem pr37 : Prim 3407 := small_prim (by decide +kernel)
theorem pr38 : Prim 263 := small_prim (by decide +kernel)
theorem ce39 : Cert 126241 7 [2, 2, 2, 2, 2, 3, 5, 263] := cert_of (by decide +kernel) (fun q hq => by
    simp only [List.mem_cons, List.mem_nil_iff, or_false] at hq
    rcases hq with rfl | rfl | rfl | rfl | rfl | rfl | rfl | rfl <;> first | exact pr1 | exact pr2 | exact pr4 | exact pr38)
theorem pr39 : Prim 126241 := ce39.is_prim
theorem pr40 : Prim 19 := small_prim (by decide +kernel)
theorem pr41 : Prim 337 := small_prim (by decide +kernel)
theorem pr42 : Prim 31 := small_prim (by decide +kernel)
theorem ce43 : Cert 104471 11 [2, 5, 31, 337] := cert_of (by decide +kernel) (fun q hq => by
    simp only [List.mem_cons, List.mem_nil_iff, or_false] at hq
    rcases hq with rfl | rfl | rfl | rfl <;> first | exact pr1 | exact pr4 | exact pr42 | exact pr41)
theorem pr43 : Prim 104471 := ce43.is_prim
theorem ce44 : Cert 3969899 2 [2, 19, 104471] := cert_of (by decide +kernel) (fun q hq => by
    simp only [List.mem_cons, List.mem_nil_iff, or_false] at hq
    rcases hq with rfl | rfl | rfl <;> first | exact pr1 | exact pr40 | exact pr43)
theorem pr44 : Prim 3969899 := ce44.is_prim
theorem ce45 : Cert 1002328039319 19 [2, 126241, 3969899] := cert_of (by decide +kernel) (fun q hq => by
    simp only [List.mem_cons, List.mem_nil_iff, or_false] at hq
    rcases hq with rfl | rfl | rfl <;> first | exact pr1 | exact pr39 | exact pr44)
theorem pr45 : Prim 1002328039319 := ce45.is_prim
theorem pr46 : Prim 16879 := small_prim (by decide +kernel)
theorem pr47 : Prim 1297 := small_prim (by decide +kernel)
theorem pr48 : Prim 41 := small_prim (by decide +kernel)
theorem pr49 : Prim 43 := small_prim (by decide +kernel)
theorem ce50 : Cert 155317 5 [2, 2, 3, 7, 43, 43] := cert_of (by decide +kernel) (fun q hq => by
    simp only [List.mem_cons, List.mem_nil_iff, or_false] at hq
    rcases hq with rfl | rfl | rfl | rfl | rfl | rfl <;> first | exact pr1 | exact pr2 | exact pr26 | exact pr49)
theorem pr50 : Prim 155317 := ce50.is_prim
theorem ce51 : Cert 191039911 3 [2, 3, 5, 41, 155317] := cert_of (by decide +kernel) (fun q hq => by
    simp only [List.mem_cons, List.mem_nil_iff, or_false] at hq
    rcases hq with rfl | rfl | rfl | rfl | rfl <;> first | exact pr1 | exact pr2 | exact pr4 | exact pr48 | exact pr50)
theorem pr51 : Prim 191039911 := ce51.is_prim
theorem pr52 : Prim 3023 := small_prim (by decide +kernel)
theorem pr53 : Prim 127 := small_prim (by decide +kernel)
theorem ce54 : Cert 208150935158385979 2 [2, 3, 11, 43, 127, 3023, 191039911] := cert_of (by decide +kernel) (fun q hq => by
    simp only [List.mem_cons, List.mem_nil_iff, or_false] at hq
    rcases hq with rfl | rfl | rfl | rfl | rfl | rfl | rfl <;> first | exact pr1 | exact pr2 | exact pr23 | exact pr49 | exact pr53 | exact pr52 | exact pr51)
theorem pr54 : Prim 208150935158385979 := ce54.is_prim
theorem ce55 : Cert 2624747550333869278416773953 7 [2, 2, 2, 2, 2, 2, 3, 3, 1297, 16879, 208150935158385979] := cert_of (by decide +kernel) (fun q hq => by
    simp only [List.mem_cons, List.mem_nil_iff, or_false] at hq
    rcases hq with rfl | rfl | rfl | rfl | rfl | rfl | rfl | rfl | rfl | rfl | rfl <;> first | exact pr1 | exact pr2 | exact pr47 | exact pr46 | exact pr54)
theorem pr55 : Prim 2624747550333869278416773953 := ce55.is_prim
theorem pr56 : Prim 373 := small_prim (by decide +kernel)
theorem pr57 : Prim 311 := small_prim (by decide +kernel)
theorem pr58 : Prim 29 := small_prim (by decide +kernel)
theorem ce59 : Cert 311245691 2 [2, 5, 7, 17, 29, 29, 311] := cert_of (by decide +kernel) (fun q hq => by
    simp only [List.mem_cons, List.mem_nil_iff, or_false] at hq
    rcases hq with rfl | rfl | rfl | rfl | rfl | rfl | rfl <;> first | exact pr1 | exact pr4 | exact pr26 | exact pr9 | exact pr58 | exact pr57)
theorem pr59 : Prim 311245691 := ce59.is_prim
theorem ce60 : Cert 622491383 5 [2, 311245691] := cert_of (by decide +kernel) (fun q hq => by
    simp only [List.mem_cons, List.mem_nil_iff, or_false] at hq
    rcases hq with rfl | rfl <;> first | exact pr1 | exact pr59)
theorem pr60 : Prim 622491383 := ce60.is_prim
theorem pr61 : Prim 1201 := small_prim (by decide +kernel)
theorem pr62 : Prim 229 := small_prim (by decide +kernel)
theorem ce63 : Cert 9350987 2 [2, 17, 229, 1201] := cert_of (by decide +kernel) (fun q hq => by
    simp only [List.mem_cons, List.mem_nil_iff, or_false] at hq
    rcases hq with rfl | rfl | rfl | rfl <;> first | exact pr1 | exact pr9 | exact pr62 | exact pr61)
theorem pr63 : Prim 9350987 := ce63.is_prim
theorem ce64 : Cert 187019741 2 [2, 2, 5, 9350987] := cert_of (by decide +kernel) (fun q hq => by
    simp only [List.mem_cons, List.mem_nil_iff, or_false] at hq
    rcases hq with rfl | rfl | rfl | rfl <;> first | exact pr1 | exact pr4 | exact pr63)
theorem pr64 : Prim 187019741 := ce64.is_prim
theorem ce65 : Cert 115792089210356248762697446949407573529996955224135760342422259061068512044369 7 [2, 2, 2, 2, 3, 71, 131, 373, 3407, 17449, 38189, 187019741, 622491383, 1002328039319, 2624747550333869278416773953] := cert_of (by decide +kernel) (fun q hq => by
    simp only [List.mem_cons, List.mem_nil_iff, or_false] at hq
    rcases hq with rfl | rfl | rfl | rfl | rfl | rfl | rfl | rfl | rfl | rfl | rfl | rfl | rfl | rfl | rfl <;> first | exact pr1 | exact pr2 | exact pr35 | exact pr34 | exact pr56 | exact pr37 | exact pr6 | exact pr36 | exact pr64 | exact pr60 | exact pr45 | exact pr55)
theorem pr65 : Prim 115792089210356248762697446949407573529996955224135760342422259061068512044369 := ce65.is_prim

theorem fermat_p (u : Nat) (h0 : 0 < u) (h1 : u < 115792089210356248762697446949407573530086143415290314195533631308867097853951) : u ^ (115792089210356248762697446949407573530086143415290314195533631308867097853951 - 1) % 115792089210356248762697446949407573530086143415290314195533631308867097853951 = 1 := ce33.fermat u h0 h1
theorem fermat_n (u : Nat) (h0 : 0 < u) (h1 : u < 115792089210356248762697446949407573529996955224135760342422259061068512044369) : u ^ (115792089210356248762697446949407573529996955224135760342422259061068512044369 - 1) % 115792089210356248762697446949407573529996955224135760342422259061068512044369 = 1 := ce65.fermat u h0 h1

end Go.Ev
